/- Parts. -/
import Derived.Lib.AppendZerosOnto
import Derived.Lib.SliceRun
import Derived.Test.YtnkocjkkefnelaaGreatPj3
import Derived.Test.YtnkocjkkefnelaaGreatPj4
import Derived.Test.YtnkocjkkefnelaaGreatPj5
import Derived.Test.YtnkocjkkefnelaaGreatPj8
import Derived.Test.YtnkocjkkefnelaaGreatPj10
import Derived.Test.YtnkocjkkefnelaaGreatPj14
import Derived.Test.YtnkocjkkefnelaaGreatPj15
set_option linter.unusedVariables false
set_option linter.unusedSimpArgs false
set_option maxRecDepth 100000
namespace Go.Proofs.YtnkocjkkefnelaaGreat
open Go.RowKit
section
variable {E : Env} {V J : Nat} {ty : TypeId} {pos : String} {af : Array Edge} {gd : Option (Nat × Bool)} {tm : Tm} {σ : Store}
theorem Y_appendR {d : Nat} {T e : TypeId} {te ee : TE} {x z : Operand} {s k n : Nat} {τ : Stamp} {y2 : OV} {ks2 : List Nat} {rows1 rows2 : List (List OV)} (hT : E.tab T = some te) (hk : te.k = .slice e) (hE : E.tab e = some ee) (hs : ee.size = s) (hpos : 0 < s)
  (hx : ev tm x = some (.os k τ s n)) (hz : ev tm z = some y2) (hs1 : σ k = some (τ, ⟨s, rows1⟩)) (hn : n = rows1.length) (h2 : Src σ s y2 ks2 rows2) (hlf : ∀ r ∈ rows2, ∀ y ∈ r, y.leaf = true)
  (hb : (rows1.length + rows2.length) * ee.bytes ≤ 140737488355328) (hm : rows1.length + rows2.length ≤ maxLen) :
  YL E.P V J ⟨some d, .call { callee := .builtin .append, args := #[x, z], argTypes := #[T, T] }, ty, pos, af, gd⟩ tm σ (k :: ks2) (.os d (V, J) s (rows1.length + rows2.length)) [(k, none), (d, some ((V, J), ⟨s, rows1 ++ rows2⟩))] :=
 fun σ' hσ Γ G ρ w hv hf hρ hw => by
 have hs1 : σ' k = some (τ, ⟨s, rows1⟩) := by rw [hσ k (by simp)]; exact hs1
 have hwd : WRel Γ G (σ'.del k) w := hw.forget (Store.del_le σ' k)
 have h2 := h2.move (σ' := σ') fun k hk => hσ k (by simp [hk])
 have r1 := hρ x (by simp [Op.operands, Call.operands]) _ hx
 obtain ⟨a, c, e2, hlc, hsrc⟩ := h2.lies hw (hρ z (by simp [Op.operands, Call.operands]) _ hz) hlf
 obtain ⟨_, i, zv, hi, i1, i2, hzv, hzc, hlen, hone⟩ := E.ok e ee hE
 have ht := (E.ok T te hT).1
 rw [hk] at ht
 simp only [TK.fits] at ht
 have hzs : zv.cells.size = s := by rw [← Array.length_toList, hzc, hlen, hs]
 have his : i.size = s := by omega
 have hmI : ((rows1.length + rows2.length : Nat) : Int) ≤ 9223372036854775807 := by unfold maxLen at hm; omega
 show NextOk E.P Γ G V J _ ((σ'.del k).put d ((V, J), ⟨s, rows1 ++ rows2⟩)) _
 -- the first slice's block, where it has one
 have nilCase : ρ x = .slice none 0 0 → rows1 = [] → NextOk E.P Γ G V J (.os d (V, J) s (rows1.length + rows2.length)) ((σ'.del k).put d ((V, J), ⟨s, rows1 ++ rows2⟩))
   ((execOp ρ ⟨some d, .call { callee := .builtin .append, args := #[x, z], argTypes := #[T, T] }, ty, pos, af, gd⟩).run E.P w) := fun e1 hr1 => by
  subst hr1
  simp only [List.nil_append, List.length_nil, Nat.zero_add] at hb hm hmI ⊢
  rcases hsrc with ⟨rfl, rfl⟩ | ⟨ad, rfl, vs, v1, v2, v3, v4⟩
  ·rw [wA (u := .slice none 0 0) (w' := w) (by rw [e1, e2]; exact xP ht hi none 0 0 c (Nat.le_refl _))]
   exact ⟨_, Gh.name_le G _ (hf d), wI G d V J _, by rw [RepO]; exact Or.inr ⟨Gh.name_self _ _ _ _, rfl, rfl⟩, hwd.phantom d hv (hf d) s⟩
  ·by_cases h0 : rows2.length = 0
   ·have : rows2 = [] := List.eq_nil_of_length_eq_zero h0
    subst this
    have hvs : vs = [] := List.eq_nil_of_length_eq_zero (by simpa using v1)
    subst hvs
    have hr : (Builtin.append_ #[T, T] ty #[ρ x, ρ z]).run E.P w = .ok (.slice none 0 0) w := by
     rw [e1, e2]
     simp [Builtin.append_, run_underlying ht, sizeOf, typeInfo, hi, Builtin.lenOf, Builtin.firstCells, loadCells, loadCellsFrom]
    rw [wA hr]
    exact ⟨_, Gh.name_le G _ (hf d), wI G d V J _, by rw [RepO]; exact Or.inr ⟨Gh.name_self _ _ _ _, rfl, rfl⟩, hwd.phantom d hv (hf d) s⟩
   ·have hr := run_append_nil (P := E.P) w T ty e i zv ht hi hzv ad rows2.length c vs (by rw [his]; exact v1) v2 (by omega) hmI (by rw [i2]; omega)
    rw [wA (by rw [e1, e2]; exact hr)]
    have hge := grownCap_ge w rows2.length 0 e
    refine Leaves.made hwd hv hf ?_ rfl hge (grownCap_le_maxLen w rows2.length 0 e hm) (by simp only [Array.size_append, List.size_toArray, size_zeroCells, hzs, v1, ← Nat.add_mul]; congr 1; omega)
    intro i' row hi'
    obtain ⟨q1, q2⟩ := v4 i' row hi'
    refine ⟨q1, fun p y hy => ?_⟩
    obtain ⟨v, q3, q4⟩ := q2 p y hy
    refine ⟨v, ?_, q4⟩
    rw [Array.getElem?_append_left]
    ·exact q3
    ·rcases Nat.lt_or_ge (i' * s + p) vs.toArray.size with hh | hh
     ·exact hh
     ·rw [Array.getElem?_eq_none hh] at q3; cases q3
 subst hn
 rw [RepO] at r1
 rcases r1 with ⟨β, cap, hμ, e1, c1, c2, c3⟩ | ⟨hμ, e1, hn⟩
 ·have hother : ∀ k' τ' r' β', k' ≠ d → (σ'.del k) k' = some (τ', r') → G.μ k' τ' = some (some β') → β'.b ≠ β.b := fun k' τ' r' β' _ hk' hμ' e => by
   by_cases hkk : k' = k
   ·subst hkk; rw [Store.del_self] at hk'; cases hk'
   ·rw [Store.del_ne _ hkk] at hk'
    exact hkk (hw.inj k' k τ' τ β' β r' _ hk' hs1 hμ' hμ e)
  obtain ⟨hsep, hfr⟩ : (∀ o, G.M β.b o = none) ∧ (Γ.w0.heap.size ≤ β.b ∨ Γ.S β.b) := by
   rcases hw.own k τ _ hs1 with ⟨h1, _⟩ | ⟨β0, h1, h2, hsep, hfr⟩
   ·rw [hμ] at h1; cases h1
   ·rw [hμ] at h1; cases h1; exact ⟨hsep, hfr⟩
  obtain ⟨cs, g1, g2, g3, g4⟩ := hw.blk hs1 hμ
  simp only at g3
  rcases hsrc with ⟨rfl, rfl⟩ | ⟨ad, rfl, vs, v1, v2, v3, v4⟩
  ·rw [wA (u := ρ x) (w' := w) (by rw [e1, e2]; exact xP ht hi _ rows1.length cap c c1), e1]
   refine ⟨_, Gh.name_le G _ (hf d), wI G d V J _, ?_, hwd.named (k := d) (β := β) hv (hf d) (Nat.le_refl _) rfl rfl rfl (fun _ _ _ => rfl) ⟨cs, g1, g2, by simpa using g3, by simpa using g4⟩ hsep hfr hother⟩
   rw [RepO]
   exact Or.inl ⟨β, cap, Gh.name_self _ _ _ _, rfl, by simpa using c1, c2, c3⟩
  ·by_cases hroom : rows1.length + rows2.length ≤ cap
   ·have hfit : rows1.length * s + vs.length ≤ cs.size := by rw [v1, g2, c2, ← Nat.add_mul]; exact Nat.mul_le_mul_right _ hroom
    have hr := aE (P := E.P) w T ty e β.T i ht hi β.b rows1.length cap cs g1 ad rows2.length c vs (by rw [his]; exact v1) v2 v3 hroom (by rw [his]; exact hfit)
    rw [his] at hr
    rw [wA (by rw [e1, e2]; exact hr)]
    refine ⟨_, Gh.name_le G _ (hf d), wI G d V J _, ?_, hwd.named (k := d) (β := β) hv (hf d) (by simp) rfl rfl rfl (fun b _ hb => setRow_other w β.b b _ hb) ⟨_, setRow_heap w β.b cs _ β.T _ g1, ?_, ?_, ?_⟩ hsep hfr hother⟩
    ·rw [RepO]
     exact Or.inl ⟨β, cap, Gh.name_self _ _ _ _, rfl, hroom, c2, c3⟩
    ·simp only [List.size_toArray, List.length_append, List.length_take, List.length_drop, Array.length_toList]
     omega
    ·simp only [List.length_append, Nat.add_mul]
     rw [← v1, ← g2]; exact hfit
    ·have htl : (cs.toList.take (rows1.length * s)).length = rows1.length * s := by simp; omega
     refine RowAt.append (vs := vs) ?_ ?_ ?_ v4 v1
     ·have e3 : (cs.toList.take (rows1.length * s) ++ vs).length = rows1.length * s + vs.length := by rw [List.length_append, htl]
      rw [← e3, List.take_left]
      rw [List.append_assoc, ← htl, List.length_take]
      rw [Nat.min_eq_left (by simp; omega), List.take_left' (by simp; omega)]
     ·simp only [List.size_toArray, List.length_append, List.length_take, List.length_drop, Array.length_toList]
      omega
     ·intro i' row hi'
      obtain ⟨q1, q2⟩ := g4 i' row hi'
      refine ⟨q1, fun p y hy => ?_⟩
      obtain ⟨v, q3, q4⟩ := q2 p y hy
      refine ⟨v, ?_, q4⟩
      have hlt : i' < rows1.length := by
       rcases Nat.lt_or_ge i' rows1.length with hh | hh
       ·exact hh
       ·rw [show (Row.rows ⟨s, rows1⟩) = rows1 from rfl, List.getElem?_eq_none hh] at hi'; cases hi'
      have hp : p < s := by
       rcases Nat.lt_or_ge p row.length with hh | hh
       ·have := q1; simp only at this; omega
       ·rw [List.getElem?_eq_none hh] at hy; cases hy
      have hb' : (i' + 1) * s ≤ rows1.length * s := Nat.mul_le_mul_right s hlt
      rw [Nat.succ_mul] at hb'
      simp only [List.getElem?_toArray, List.append_assoc]
      rw [List.getElem?_append_left (by rw [htl]; omega), List.getElem?_take, if_pos (by omega)]
      simpa using q3
   ·have hol : ∀ j u, (cs.toList.take (rows1.length * s))[j]? = some u → w.cell? ((⟨β.b, 0, none⟩ : Addr).add j) = some u := fun j u hu => by
     rw [List.getElem?_take] at hu
     split at hu
     ·rw [xU]; simpa [World.cell?, g1] using hu
     ·cases hu
    have htl : (cs.toList.take (rows1.length * s)).length = rows1.length * s := by simp; omega
    have hr := run_append_grow (P := E.P) w T ty e i zv ht hi hzv ⟨β.b, 0, none⟩ rows1.length cap (cs.toList.take (rows1.length * s)) (by rw [htl, his]) hol ad rows2.length c vs (by rw [his]; exact v1) v2 (by omega) hmI (growslice_fits (by omega) (by rw [i2]; exact hb))
    rw [wA (by rw [e1, e2]; exact hr)]
    have hge := grownCap_ge w (rows1.length + rows2.length) cap e
    refine Leaves.made hwd hv hf ?_ (by simp) hge (grownCap_le_maxLen w _ cap e hm) (by
     simp only [Array.size_append, List.size_toArray, size_zeroCells, hzs, htl, v1, ← Nat.add_mul]; congr 1; omega)
    refine RowAt.append (vs := vs) ?_ ?_ ?_ v4 v1
    ·simp only [Array.toList_append, List.append_assoc]
     exact lV _ vs _ _ htl
    ·simp only [Array.size_append, List.size_toArray, htl]; omega
    ·intro i' row hi'
     obtain ⟨q1, q2⟩ := g4 i' row hi'
     refine ⟨q1, fun p y hy => ?_⟩
     obtain ⟨v, q3, q4⟩ := q2 p y hy
     refine ⟨v, ?_, q4⟩
     have hlt : i' < rows1.length := by
      rcases Nat.lt_or_ge i' rows1.length with hh | hh
      ·exact hh
      ·rw [show (Row.rows ⟨s, rows1⟩) = rows1 from rfl, List.getElem?_eq_none hh] at hi'; cases hi'
     have hp : p < s := by
      rcases Nat.lt_or_ge p row.length with hh | hh
      ·have := q1; simp only at this; omega
      ·rw [List.getElem?_eq_none hh] at hy; cases hy
     have hb' : (i' + 1) * s ≤ rows1.length * s := Nat.mul_le_mul_right s hlt
     rw [Nat.succ_mul] at hb'
     have hlt2 : i' * s + p < rows1.length * s := by omega
     rw [Array.append_assoc, Array.getElem?_append_left (by simpa [htl] using hlt2)]
     simp only [List.getElem?_toArray]
     rw [List.getElem?_take, if_pos hlt2]
     simpa using q3
 ·exact nilCase e1 (List.eq_nil_of_length_eq_zero hn)
end
structure RenOf (d : Nat) : Prop where
 on : True
variable {E : Env} {v j : Nat} {ops : Array Oper} {K : Tm → Store → Prop} {KD : List Foot → Tm → Store → Prop} {acc : List Foot} {rest : List Oper} {tm : Tm} {σ : Store} {ty : TypeId} {pos : String} {af : Array Edge} {gd : Option (Nat × Bool)}
theorem Ren.D_appendK {d : Nat} {T e : TypeId} {te ee : TE} {x z : Operand} {s k n : Nat} {τ : Stamp} {y2 : OV} {ks2 : List Nat} {rows1 rows2 : List (List OV)} (hmk : RenOf d) (hT : E.tab T = some te) (hk : te.k = .slice e) (hE : E.tab e = some ee) (hs : ee.size = s) (hpos : 0 < s) (hx : ev tm x = some (.os k τ s n)) (hz : ev tm z = some y2) (h1 : Dst σ s d (.os k τ s n) [k] k rows1) (h2 : Src σ s y2 ks2 rows2) (hlf : ∀ r ∈ rows2, ∀ y ∈ r, y.leaf = true) (hb : (rows1.length + rows2.length) * ee.bytes ≤ 140737488355328) (hm : rows1.length + rows2.length ≤ maxLen) (hcont : DO E.P v ops KD (j + 1) rest (tm.putO (some d) (.os d (v, j) s (rows1.length + rows2.length))) (σ.apply [(k, none), (d, some ((v, j), ⟨s, rows1 ++ rows2⟩))]) (Foot.mk (k :: ks2) (wkeys [(k, none), (d, some ((v, j), ⟨s, rows1 ++ rows2⟩))]) :: acc)) : DO E.P v ops KD j (⟨some d, .call { callee := .builtin .append, args := #[x, z], argTypes := #[T, T] }, ty, pos, af, none⟩ :: rest) tm σ acc := by
 cases h1 with
 | os _ _ _ _ hs1 hn => exact vU (Y_appendR hT hk hE hs hpos hx hz hs1 hn h2 hlf hb hm) hcont
end Go.Proofs.YtnkocjkkefnelaaGreat
set_option maxRecDepth 100000
namespace Go.Proofs.YtnkocjkkefnelaaGreat
open Go.RowKit
open Go.RowKit Go.Lib
set_option maxHeartbeats 2000000 in
theorem grow_zero (w : World) : Calls Tryz.prog 90 #[.slice none 0 0, .int .i64 0] w fun e w' => e = .returned (.slice none 0 0) ∧ w' = w := by
 go_enter Tryz.func90, Tryz.ntmps90
 go_wp2
 go_ret
 exact ⟨rfl, rfl⟩
set_option maxHeartbeats 2000000 in
theorem grow_more (n : Nat) (h0 : 0 < n) (hn : n ≤ 65536) (w : World) : Calls Tryz.prog 90 #[.slice none 0 0, .int .i64 n] w fun e w' =>
  ∃ cs : Array Value, cs.size = grownCap w n 0 73 * 2 ∧ e = .returned (.slice (some ⟨w.heap.size, 0, none⟩) 0 (grownCap w n 0 73)) ∧ w' = w.drew.alloc (.cells cs 73) := by
 obtain ⟨i0, hi, jz0, jz1, jz2⟩ := info_parts pP
 have h1 : ¬ ((n : Int) < 0) := by omega
 have h2 : RowKit.wrap64 ((0 : Int) - (0 : Int)) = 0 := by unfold RowKit.wrap64; omega
 have h3 : RowKit.wrap64 ((n : Int) - (0 : Int)) = (n : Int) := by unfold RowKit.wrap64; omega
 have h4 : (n : Int) > 0 := by omega
 have hGn : n ≤ grownCap w n 0 73 := grownCap_ge w _ _ _
 have hrz : ∀ ty, (Builtin.append_ #[51, 3] ty #[.slice none 0 0, .int .i64 (n : Int)]).run Tryz.prog w =
   .ok (.slice (some ⟨w.heap.size, 0, none⟩) n (grownCap w n 0 73)) (w.drew.alloc (.cells ((#[] : Array Value) ++ Builtin.zeroCells (Value.agg #[.int .i64 0, .int .i64 0]).cells n ++ Builtin.zeroCells (Value.agg #[.int .i64 0, .int .i64 0]).cells (grownCap w n 0 73 - n)) 73)) := fun ty => by
  have h := Lib.run_append_grow_zeros w 51 3 ty 73 i0 _ .i64 .i64 Tryz.underlying51 Tryz.underlying3 hi jz0 none 0 0 [] (run_firstCells_none w.drew i0.size 0 0 0) n h0 (by omega) (by omega) (by omega) (by rw [jz2]; omega) (growslice_fits (by omega) (by rw [jz2]; omega))
  simpa using h
 have hcs : ((#[] : Array Value) ++ Builtin.zeroCells (Value.agg #[.int .i64 0, .int .i64 0]).cells n ++ Builtin.zeroCells (Value.agg #[.int .i64 0, .int .i64 0]).cells (grownCap w n 0 73 - n)).size = grownCap w n 0 73 * 2 := by
  simp only [Array.size_append, List.size_toArray, List.length_nil, size_zeroCells, Value.cells, List.length_cons]
  omega
 obtain ⟨CS, hCS⟩ : ∃ CS, ((#[] : Array Value) ++ Builtin.zeroCells (Value.agg #[.int .i64 0, .int .i64 0]).cells n ++ Builtin.zeroCells (Value.agg #[.int .i64 0, .int .i64 0]).cells (grownCap w n 0 73 - n)) = CS := ⟨_, rfl⟩
 rw [hCS] at hcs
 simp only [hCS] at hrz
 obtain ⟨Gc, hG⟩ : ∃ Gc, grownCap w n 0 73 = Gc := ⟨_, rfl⟩
 rw [hG] at hcs hGn ⊢
 simp only [hG] at hrz
 have hG63 : Gc ≤ 9223372036854775807 := by
  have := grownCap_le_maxLen w n 0 73 (by unfold maxLen; omega)
  rw [hG] at this
  unfold maxLen at this
  omega
 clear hCS hG
 go_enter Tryz.func90, Tryz.ntmps90
 go_wp2_with (at_builtin; refine Lib.wpList_append_run _ rfl _ _ _ _ rfl _ _ rfl rfl _ _ (hrz _) ?_)
 all_goals (go_ret; exact ⟨CS, hcs, rfl, rfl⟩)
theorem pQ (n : Nat) (hn : n ≤ 65536) : Own E.P 90 [.d (.c (.slice none 0 0)), .int .i64 n] 2 [] := by
 refine ⟨⟨_, Tryz.func90, by decide, rfl⟩, fun G w vs N hv hw => ?_⟩
 rw [RepOL] at hv
 obtain ⟨x1, us, rfl, h1, hv⟩ := hv
 rw [RepOL] at hv
 obtain ⟨x2, us, rfl, h2, hv⟩ := hv
 rw [RepOL] at hv
 subst hv
 have e1 := vZ h1
 have e2 := vZ h2
 subst e1 e2
 obtain ⟨v, hv, hf⟩ := hw.free
 rcases Nat.eq_zero_or_pos n with h0 | h0
 ·subst h0
  refine (grow_zero w).mono ?_
  rintro e w' ⟨rfl, rfl⟩
  exact ⟨_, _, .os 0 (v, 0) 2 0, _, rfl, ⟨0, (v, 0), rfl, Store.put_self _ _ _⟩, Gh.name_le G none (hf 0 0), by rw [RepO]; exact Or.inr ⟨Gh.name_self _ _ _ _, rfl, rfl⟩, hw.phantom 0 hv (hf 0 0) 2⟩
 ·refine (grow_more n h0 hn w).mono ?_
  rintro e w' ⟨cs, hcs, rfl, rfl⟩
  have hc := grownCap_le_maxLen w n 0 73 (by unfold maxLen; omega)
  have hw2 := (hw.drawn (w.drawn + 1)).alloc 0 hv (hf 0 0) cs 73 ⟨2, []⟩ (by simp) (fun i row hi => by simp at hi)
  exact ⟨_, _, .os 0 (v, 0) 2 0, _, rfl, ⟨0, (v, 0), rfl, Store.put_self _ _ _⟩, Gh.name_le G _ (hf 0 0), by rw [RepO]; exact Or.inl ⟨_, _, Gh.name_self _ _ _ _, rfl, Nat.zero_le _, hcs, hc⟩, hw2⟩
theorem kD (ls : List (List (Int × Int))) (k : Nat) (h : k < ls.length) : (ls.take (k + 1)).flatten = (ls.take k).flatten ++ ls.getD k default := by
 rw [wU ls default k h, List.flatten_append]; simp
theorem gJ (ls : List (List (Int × Int))) (k : Nat) : ((ls.take k).flatten).length ≤ ls.flatten.length := by
 have h : ls = ls.take k ++ ls.drop k := (List.take_append_drop k ls).symm
 have := congrArg (fun l : List (List (Int × Int)) => l.flatten.length) h
 simp only [List.flatten_append, List.length_append] at this
 omega
def catRow (l : List (Int × Int)) : List TV := [pairsTV l]
set_option maxHeartbeats 4000000 in
theorem concat_o (ls : List (List (Int × Int))) (hl : ls.flatten.length ≤ 65536) (hn : ls.length ≤ 64) : Own E.P 60 [.d (.sl 1 (ls.map catRow))] 2 (ls.flatten.map pairO') := by
 have hG := fun n hn => pQ n hn
 refine fnA Tryz.func60 Tryz.ntmps60 ?_
 refine uB (aoR fun _ => ?_)
 refine q51 (uC (uA (uB (aoR fun _ => ?_))))
 refine q12 (uC (uA ?_))
 iterate 2 refine uB ?_
 refine aoR fun _ => ?_; refine q11 ?_; refine q13 ?_; refine q11 (uC (uA (uF ?_)))
 rotate_left
 refine uZ (X := Nat) (fun k => tmL [(0, .d (.sl 1 (ls.map catRow))), (3, .int .i64 ((ls.take k).flatten).length), (9, .d (.sl 1 (ls.map catRow))), (10, .int .i64 ls.length), (11, .int .i64 k)]) (fun _ => stL []) (fun k => k ≤ ls.length) (fun k => ls.length - k) 0 (Nat.zero_le _) (by repeat' (first | exact vP _ | exact vM _ | refine uL rfl ?_ | refine vF rfl ?_ | (refine uV rfl ?_ ?_; (simp)) | (refine uN rfl ?_ ?_; (simp)) | (refine vA rfl ?_ ?_; (simp)))) leP ?_
 intro k hk
 have hfl := gJ ls k
 by_cases hlt : k < ls.length
 ·have hfl1 := gJ ls (k + 1)
  have hft := congrArg List.length (kD ls k hlt)
  rw [List.length_append] at hft
  have hA : ((ls.take k).flatten).length + (ls.getD (k : Int).toNat default).length ≤ 65536 := by rw [Int.toNat_natCast]; omega
  refine uB (aoR fun _ => ?_)
  refine q37 (uC (uA (uB ?_))); refine cnd ?_ ?_
  refine uI fun _ => ?_; try (exfalso; omega)
  refine uG (uA (uB (uF (uB (aoR fun _ => ?_)))))
  refine q17 ?_; refine q23 ?_; refine q12 (uC (uA (uB (aoR fun _ => ?_))))
  iterate 2 refine q11 ?_
  refine q13 ?_; refine q36 ?_; refine q12 (uC (uA (uB (aoR fun _ => ?_))))
  refine q11 ?_; refine q37 (uC (uA ?_)); refine cnd ?_ ?_
  refine uI fun _ => ?_; try (exfalso; omega)
  refine uJ fun _ => ?_; try (exfalso; omega)
  refine uG ?_; refine vI ?_; refine uA (aoR fun _ => ?_)
  refine q36 ?_; refine q11 (uC (uA ?_)); rotate_left
  refine uJ fun _ => ?_; try (exfalso; omega)
  refine vJ (k + 1) (by omega) (by omega) ?_ leP
  refine uL rfl (uL ?_ (uL rfl (uL rfl (uL rfl (vP _)))))
  show some (OV.int .i64 _) = some (OV.int .i64 _)
  rw [hft]; rfl
 ·have hkl : k = ls.length := by omega
  subst hkl
  rw [List.take_length]
  refine uB (aoR fun _ => ?_)
  refine q37 (uC (uA (uB ?_))); refine cnd ?_ ?_
  refine uI fun _ => ?_; try (exfalso; omega)
  refine uJ fun _ => ?_; try (exfalso; omega)
  refine uO ?_
  iterate 2 refine vH ?_
  refine vR ?_; refine uA (uB (aoR fun _ => ?_))
  refine q11 ?_
  apply eM; exact rfl; exact .fn _ _ _; exact rfl; exact pQ _ hl
  apply xF; exact rfl; exact rfl
  refine uC (uA ?_)
  iterate 2 refine uB ?_
  refine aoR fun _ => ?_; refine q11 ?_; refine q13 ?_; refine q11 (uC (uA (uF ?_)))
  rotate_left
  rename_i v24 _
  refine uZ (X := Nat × Stamp) (fun p => tmL [(6, .os 6 p.2 2 ((ls.take p.1).flatten).length), (25, .d (.sl 1 (ls.map catRow))), (26, .int .i64 ls.length), (27, .int .i64 p.1)]) (fun p => stL [(6, (p.2, ⟨2, ((ls.take p.1).flatten).map pairO'⟩))]) (fun p => p.1 ≤ ls.length) (fun p => ls.length - p.1) (0, (v24, 2)) (Nat.zero_le _) (by repeat' (first | exact vP _ | exact vM _ | refine uL rfl ?_ | refine vF rfl ?_ | (refine uV rfl ?_ ?_; (simp)) | (refine uN rfl ?_ ?_; (simp)) | (refine vA rfl ?_ ?_; (simp)))) (by repeat' (first | exact vP _ | exact vM _ | refine uL rfl ?_ | refine vF rfl ?_ | (refine uV rfl ?_ ?_; (simp)) | (refine uN rfl ?_ ?_; (simp)) | (refine vA rfl ?_ ?_; (simp)))) ?_
  rintro ⟨k, τ⟩ hk
  dsimp only at hk ⊢
  have hfl := gJ ls k
  by_cases hlt : k < ls.length
  ·have hfl1 := gJ ls (k + 1)
   have hft0 := kD ls k hlt
   have hft := congrArg List.length hft0
   rw [List.length_append] at hft
   have hA : ((ls.take k).flatten).length + (ls.getD (k : Int).toNat default).length ≤ 65536 := by rw [Int.toNat_natCast]; omega
   refine uB (aoR fun _ => ?_)
   refine q37 (uC (uA (uB ?_))); refine cnd ?_ ?_
   refine uI fun _ => ?_; try (exfalso; omega)
   refine uG (uA (uB (uF (uB (aoR fun _ => ?_)))))
   refine q17 ?_; refine q23 ?_; refine q12 (uC (uA (aoR fun _ => ?_)))
   iterate 2 refine q11 ?_
   refine q19 ?_
   apply xF; exact rfl; exact rfl
   refine uC ?_; refine vI ?_; refine uA (aoR fun _ => ?_)
   refine q36 ?_; refine q11 (uC (uA ?_)); rotate_left
   refine uJ fun _ => ?_; try (exfalso; omega)
   rename_i v33 _
   refine vJ (k + 1, (v33, 3)) (by dsimp only; omega) (by dsimp only; omega) ?_ ?_
   ·refine uL ?_ (uL rfl (uL rfl (uL rfl (vP _))))
    show some (OV.os 6 _ 2 _) = some (OV.os 6 _ 2 _)
    rw [hft, List.length_map, List.length_map, List.length_map]; rfl
   ·refine vF ?_ (vM _)
    show some (_, Row.mk 2 _) = some (_, Row.mk 2 _)
    rw [hft0, List.map_append, List.map_map]; rfl
  ·have hkl : k = ls.length := by omega
   subst hkl
   rw [List.take_length]
   refine uB (aoR fun _ => ?_)
   refine q37 (uC (uA (uB ?_))); refine cnd ?_ ?_
   refine uI fun _ => ?_; try (exfalso; omega)
   refine uJ fun _ => ?_; try (exfalso; omega)
   refine uO ?_
   iterate 2 refine vH ?_
   refine vR ?_; refine uA (uB (aoR fun _ => ?_))
   refine q11 ?_
   apply xF; exact rfl; exact rfl
   refine uC (uA ?_); refine uH ?_; rotate_left
   refine wW (d := 2) rfl rfl rfl ?_
   first | exact (List.length_map ..).symm | exact List.length_map ..
set_option maxRecDepth 100000
set_option maxHeartbeats 4000000 in
theorem rpairs2_o (x : Ex) (hx : x.evs.length ≤ 4096) (f : Nat → Nat → Bool) (hrel : ∀ a b : Nat, a < x.evs.length → b < x.evs.length → Pure E.P 45 [exOV x, .int .i64 a, .int .i64 b] (.bool (f a b))) : Own E.P 24 [exOV x, .int .i64 2] 2 ((refPairs x.evs.length f).map pairO') := by
 have f2 : Frozen 2 := ⟨trivial⟩
 have hsq : x.evs.length * x.evs.length ≤ 16777216 := Nat.mul_le_mul hx hx
 refine fnA Tryz.func24 Tryz.ntmps24 ?_
 refine uB (aoR fun _ => ?_)
 refine q34 ?_; refine q51 (uC (uA (uB (aoR fun _ => ?_))))
 refine q51 (uC (uA (uB (aoR fun _ => ?_))))
 refine q32 ?_; refine q23 ?_; refine q13 ?_; refine q12 (uC (uA ?_))
 iterate 2 refine uB ?_
 refine aoR fun _ => ?_; refine q12 (uC (uA (uF ?_)))
 rotate_left
 rename_i v5 _ _
 refine uZ (X := Nat × Stamp × List (Int × Int)) (fun p => tmL [(1, .int .i64 2), (2, .d (.pt (exRow x) 0)), (5, .os 5 p.2.1 2 p.2.2.length), (6, .int .i64 x.evs.length), (7, .int .i64 p.1)]) (fun p => stL [(5, (p.2.1, ⟨2, p.2.2.map pairO'⟩))])
  (fun p => p.1 ≤ x.evs.length ∧ p.2.2 = prTo x.evs.length f p.1) (fun p => x.evs.length - p.1) (0, (v5, 0), []) ⟨Nat.zero_le _, rfl⟩ (by repeat' (first | exact vP _ | exact vM _ | refine uL rfl ?_ | refine vF rfl ?_ | (refine uV rfl ?_ ?_; (simp)) | (refine uN rfl ?_ ?_; (simp)) | (refine vA rfl ?_ ?_; (simp)))) leP ?_
 rintro ⟨a, τ, l⟩ ⟨hk, hl⟩
 dsimp only at hk hl ⊢
 by_cases hlt : a < x.evs.length
 ·iterate 2 refine uB ?_
  refine aoR fun _ => ?_
  iterate 2 refine q11 ?_
  refine q37 (uC (uA ?_)); refine cnd ?_ ?_
  refine uI fun _ => ?_; try (exfalso; omega)
  refine uG (uA (uB (uF (uB (aoR fun _ => ?_)))))
  refine q12 (uC (uA (uF ?_))); rotate_left
  refine uJ fun _ => ?_; try (exfalso; omega)
  refine uZ (X := Nat × Stamp × List (Int × Int)) (fun p => tmL [(1, .int .i64 2), (2, .d (.pt (exRow x) 0)), (5, .os 5 p.2.1 2 p.2.2.length), (6, .int .i64 x.evs.length), (7, .int .i64 a), (8, .int .i64 p.1)]) (fun p => stL [(5, (p.2.1, ⟨2, p.2.2.map pairO'⟩))])
   (fun p => p.1 ≤ x.evs.length ∧ p.2.2 = l ++ prRow f a p.1) (fun p => x.evs.length - p.1) (0, τ, l) ⟨Nat.zero_le _, by simp [prRow]⟩ leP leP ?_
  rintro ⟨b, τ2, l2⟩ ⟨hk2, hl2⟩
  dsimp only at hk2 hl2 ⊢
  have hlen : l2.length ≤ 16777216 + 4096 := by
   rw [hl2, List.length_append, hl]
   have h1 := wJ x.evs.length f a
   have h2 := zF f a b
   have h3 : a * x.evs.length ≤ x.evs.length * x.evs.length := Nat.mul_le_mul hk (Nat.le_refl _)
   omega
  by_cases hlt2 : b < x.evs.length
  ·have hr := hrel a b hlt hlt2
   iterate 2 refine uB ?_
   refine aoR fun _ => ?_
   iterate 2 refine q11 ?_
   refine q37 (uC (uA ?_)); refine cnd ?_ ?_
   refine uI fun _ => ?_; try (exfalso; omega)
   refine uG (uA (uB (uF (uB (aoR fun _ => ?_)))))
   refine q12 (uC (uA ?_))
   iterate 2 refine uB ?_
   refine aoR fun _ => ?_
   refine q11 (uC (uA (uF (uB (aoR fun _ => ?_)))))
   refine q46 ?_; refine q12 (uC (uA ?_)); refine cnd ?_ ?_
   refine uI fun _ => ?_; try (exfalso; omega)
   refine uJ fun _ => ?_; try (exfalso; omega)
   refine uB (aoR fun _ => ?_)
   refine q46 ?_; refine q12 (uC (uA ?_)); refine cnd ?_ ?_
   refine uI fun _ => ?_; try (exfalso; omega)
   refine aoR fun _ => ?_; refine q33 ?_
   iterate 2 refine q11 ?_
   apply uP; exact rfl; exact .fn _ _ _; exact rfl; exact hr
   refine q12 (uC ?_); refine vI ?_; refine uA (uB (aoR fun _ => ?_))
   refine q11 (uC (uA ?_)); refine cnd ?_ ?_
   refine xJ (fun _ => ?_)
   refine aoR fun _ => ?_
   iterate 3 refine q11 ?_
   refine q54 ?_
   apply wC; exact rfl; exact rfl; exact rfl; decide; decide; decide; exact rfl; exact rfl
   refine q19 ?_
   apply xF; exact rfl; exact rfl
   refine uC ?_; refine vI ?_; refine uA (aoR fun _ => ?_)
   refine q11 ?_; refine q36 ?_; refine q12 (uC (uA ?_)); rotate_left
   refine cR (fun _ => ?_)
   refine uG ?_; refine vI ?_; refine uA (aoR fun _ => ?_)
   refine q11 ?_; refine q36 ?_; refine q12 (uC (uA ?_)); rotate_left
   iterate 2 refine uJ fun _ => ?_; try (exfalso; omega)
   ·rename_i hy v24 _
    exact vJ (b + 1, (v24, 6), l2 ++ [((a : Int), (b : Int))]) ⟨by dsimp only; omega, by dsimp only; rw [hl2, aH hy, List.append_assoc]⟩ (by dsimp only; omega) (by repeat' (first | exact vP _ | exact vM _ | refine uL rfl ?_ | refine vF rfl ?_ | (refine uV rfl ?_ ?_; (simp <;> rfl)) | (refine uN rfl ?_ ?_; (simp <;> rfl)) | (refine vA rfl ?_ ?_; (simp <;> rfl)))) (by repeat' (first | exact vP _ | exact vM _ | refine uL rfl ?_ | refine vF rfl ?_ | (refine uV rfl ?_ ?_; (simp <;> rfl)) | (refine uN rfl ?_ ?_; (simp <;> rfl)) | (refine vA rfl ?_ ?_; (simp <;> rfl))))
   ·rename_i hy _
    exact vJ (b + 1, τ2, l2) ⟨by dsimp only; omega, by dsimp only; rw [hl2, bQ (by rw [hy]; decide)]⟩ (by dsimp only; omega) leP leP
  ·have hb : b = x.evs.length := by omega
   subst hb
   iterate 2 refine uB ?_
   refine aoR fun _ => ?_
   iterate 2 refine q11 ?_
   refine q37 (uC (uA ?_)); refine cnd ?_ ?_
   refine uI fun _ => ?_; try (exfalso; omega)
   refine uJ fun _ => ?_; try (exfalso; omega)
   refine uO ?_
   iterate 2 refine vH ?_
   refine vR ?_; refine vI ?_; refine uA (aoR fun _ => ?_)
   refine q11 ?_; refine q36 ?_; refine q12 (uC (uA ?_)); rotate_left
   exact vJ (a + 1, τ2, l2) ⟨by dsimp only; omega, by dsimp only; rw [hl2, zE, hl]⟩ (by dsimp only; omega) leP leP
 ·iterate 2 refine uB ?_
  refine aoR fun _ => ?_
  iterate 2 refine q11 ?_
  refine q37 (uC (uA ?_)); refine cnd ?_ ?_
  refine uI fun _ => ?_; try (exfalso; omega)
  refine uJ fun _ => ?_; try (exfalso; omega)
  refine uO ?_
  iterate 2 refine vH ?_
  refine vR ?_; refine uA (uB (aoR fun _ => ?_))
  refine q11 ?_
  apply xF; exact rfl; exact rfl
  refine uC (uA ?_); refine uH ?_; rotate_left
  have ha : a = x.evs.length := by omega
  refine wW (d := 4) rfl rfl ?_ ?_
  ·rw [hl, ha]; rfl
  ·simp
def cohG (x : Ex) (p : Int × Int) : Bool := !decide ((x.evs.getD p.1.toNat default).kind = 4) && !decide ((x.evs.getD p.2.toNat default).kind = 4) && decide ((x.evs.getD p.1.toNat default).addr = (x.evs.getD p.2.toNat default).addr)
def cohL (x : Ex) : List (Int × Int) := refPairs x.evs.length (isRf x) ++ refPairs x.evs.length (isCoB x) ++ refPairs x.evs.length (isFrB x)
def rcohL (x : Ex) : List (Int × Int) := cohL x ++ (refPairs x.evs.length (isPo x)).filter (cohG x)
theorem wO (n : Nat) (f : Nat → Nat → Bool) : (refPairs n f).length ≤ n * n := wJ n f n
theorem yY {n : Nat} {f : Nat → Nat → Bool} {p : Int × Int} (h : p ∈ refPairs n f) : outB n p = false := by
 obtain ⟨a, b, h1, h2, _, rfl⟩ := vN.1 h
 unfold outB
 simp only [Bool.or_eq_false_iff, decide_eq_false_iff_not]
 omega
theorem jP (x : Ex) : (rcohL x).any (outB x.evs.length) = false := by
 rw [List.any_eq_false]
 intro p hp
 have : outB x.evs.length p = false := by
  unfold rcohL cohL at hp
  simp only [List.mem_append] at hp
  rcases hp with ((h | h) | h) | h
  ·exact yY h
  ·exact yY h
  ·exact yY h
  ·exact yY (List.mem_filter.1 h).1
 rw [this]; decide
theorem rcohL_len {x : Ex} (h : x.evs.length ≤ 32) : (rcohL x).length ≤ 4096 := by
 unfold rcohL cohL
 simp only [List.length_append]
 have hs : x.evs.length * x.evs.length ≤ 1024 := Nat.mul_le_mul h h
 have h1 := wO x.evs.length (isRf x)
 have h2 := wO x.evs.length (isCoB x)
 have h3 := wO x.evs.length (isFrB x)
 have h4 := wO x.evs.length (isPo x)
 have h5 := List.length_filter_le (cohG x) (refPairs x.evs.length (isPo x))
 omega
theorem xH (l : List (Int × Int)) : (l.map pairTV).map (fun r => r.map OV.d) = l.map pairO' := by
 rw [List.map_map]; rfl
namespace Ren
set_option maxHeartbeats 4000000 in
theorem rcoherent_p (x : Ex) (hx : x.rel) (hN : x.evs.length ≤ 32) : Pure E.P 18 [exOV x] (.bool (!circleB x.evs.length (rcohL x))) := by
 have f1 : Frozen 1 := ⟨trivial⟩
 have f6 : Frozen 6 := ⟨trivial⟩
 have f7 : Frozen 7 := ⟨trivial⟩
 have h2 := rpairs2_o x (by omega) (isRf x) fun a b ha hb => oL x (by omega) hx.from_ a b ha hb
 have h3 := rCo_p hx
 have h4 := rFr_p hx
 have h1 := rPo_p hx
 have hs : x.evs.length * x.evs.length ≤ 1024 := Nat.mul_le_mul hN hN
 have l1 := wO x.evs.length (isPo x)
 have l2 := wO x.evs.length (isRf x)
 have l3 := wO x.evs.length (isCoB x)
 have l4 := wO x.evs.length (isFrB x)
 refine fnA Tryz.func18 Tryz.ntmps18 ?_
 have r12 : RenOf 12 := ⟨trivial⟩
 have r15 : RenOf 15 := ⟨trivial⟩
 refine uB (aoR fun _ => ?_)
 refine q34 ?_; refine q12 (uC (uA (uB ?_)))
 refine vE (E := E) ?_ (fun _ => ?_); exact rfl
 apply vT; exact rfl; exact rfl; exact rfl; exact Nat.le_of_ble_eq_true rfl
 apply D_own; exact rfl; exact .fn _ _ _; exact rfl; exact h2
 apply vT; exact rfl; exact rfl; exact rfl; exact Nat.le_of_ble_eq_true rfl
 apply wS; exact rfl; exact .fn _ _ _; exact rfl; (exact h3)
 (apply D_appendK; assumption; exact rfl; exact rfl; exact rfl; exact rfl; decide; exact rfl; exact rfl; (first | exact .os _ _ _ _ rfl (by first | rfl | (first | omega | (simp only [List.length_append, List.length_map, List.length_take, List.length_drop, List.length_cons, List.length_nil, List.length_replicate, uY] <;> omega))) | exact .nil); (first | exact .os _ _ _ _ rfl (by first | rfl | (first | omega | (simp only [List.length_append, List.length_map, List.length_take, List.length_drop, List.length_cons, List.length_nil, List.length_replicate, uY] <;> omega))) | exact .vw _ _ _ _ _ rfl (by (first | omega | (simp only [List.length_append, List.length_map, List.length_take, List.length_drop, List.length_cons, List.length_nil, List.length_replicate, uY] <;> omega))) | exact .nil | exact .sl _); (repeat (first | exact LeafR.nil | exact LeafR.cells _ _ | exact LeafR.d _ | (apply LeafR.one; exact rfl) | exact hleaf _ | refine LeafR.take _ ?_ | refine LeafR.drop _ ?_ | refine LeafR.app ?_ ?_ | (apply LeafR.lit; exact rfl) | assumption)); (show _ * (Nat.succ _) ≤ _; (first | omega | (simp only [List.length_append, List.length_map, List.length_take, List.length_drop, List.length_cons, List.length_nil, List.length_replicate, uY] <;> omega))); (unfold maxLen; (first | omega | (simp only [List.length_append, List.length_map, List.length_take, List.length_drop, List.length_cons, List.length_nil, List.length_replicate, uY] <;> omega))))
 apply vT; exact rfl; exact rfl; exact rfl; exact Nat.le_of_ble_eq_true rfl
 apply wS; exact rfl; exact .fn _ _ _; exact rfl; (exact h4)
 (apply D_appendK; assumption; exact rfl; exact rfl; exact rfl; exact rfl; decide; exact rfl; exact rfl; (first | exact .os _ _ _ _ rfl (by first | rfl | (first | omega | (simp only [List.length_append, List.length_map, List.length_take, List.length_drop, List.length_cons, List.length_nil, List.length_replicate, uY] <;> omega))) | exact .nil); (first | exact .os _ _ _ _ rfl (by first | rfl | (first | omega | (simp only [List.length_append, List.length_map, List.length_take, List.length_drop, List.length_cons, List.length_nil, List.length_replicate, uY] <;> omega))) | exact .vw _ _ _ _ _ rfl (by (first | omega | (simp only [List.length_append, List.length_map, List.length_take, List.length_drop, List.length_cons, List.length_nil, List.length_replicate, uY] <;> omega))) | exact .nil | exact .sl _); (repeat (first | exact LeafR.nil | exact LeafR.cells _ _ | exact LeafR.d _ | (apply LeafR.one; exact rfl) | exact hleaf _ | refine LeafR.take _ ?_ | refine LeafR.drop _ ?_ | refine LeafR.app ?_ ?_ | (apply LeafR.lit; exact rfl) | assumption)); (show _ * (Nat.succ _) ≤ _; (first | omega | (simp only [List.length_append, List.length_map, List.length_take, List.length_drop, List.length_cons, List.length_nil, List.length_replicate, uY] <;> omega))); (unfold maxLen; (first | omega | (simp only [List.length_append, List.length_map, List.length_take, List.length_drop, List.length_cons, List.length_nil, List.length_replicate, uY] <;> omega))))
 apply D_ren; exact rfl; exact rfl
 refine vV ?_ ?_; (first | ((try dsimp only [wkeys]); decide +kernel) | exact rfl)
 refine uA (uB (aoR fun _ => ?_))
 refine q33 ?_
 apply uP; exact rfl; exact .fn _ _ _; exact rfl; (exact h1)
 refine q12 (uC (uA ?_))
 iterate 2 refine uB ?_
 refine aoR fun _ => ?_; refine q12 (uC (uA (uF ?_)))
 rotate_left
 rename_i _ v8 _ _
 generalize hL : refPairs x.evs.length (isPo x) = L at l1
 have hln : L.length ≤ 1024 := by omega
 have hmem : ∀ k, k < L.length → ∃ a b : Nat, a < x.evs.length ∧ b < x.evs.length ∧ (L.getD k default).1 = (a : Int) ∧ (L.getD k default).2 = (b : Int) := fun k hk' => by
  have : L.getD k default ∈ L := by rw [List.getD_eq_getElem?_getD, List.getElem?_eq_getElem hk']; exact List.getElem_mem hk'
  rw [← hL] at this
  obtain ⟨a, b, g1, g2, _, g3⟩ := vN.1 this
  rw [hL] at g3
  exact ⟨a, b, g1, g2, by rw [g3], by rw [g3]⟩
 refine uZ (X := Nat × Stamp × List (Int × Int)) (fun p => tmL [(1, .d (.pt (exRow x) 0)), (2, .bool false), (3, .os 3 p.2.1 2 p.2.2.length), (4, .d (pairsTV L)), (5, .int .i64 p.1)]) (fun p => stL [(3, (p.2.1, ⟨2, p.2.2.map pairO'⟩))])
  (fun p => p.1 ≤ L.length ∧ p.2.2 = cohL x ++ (L.take p.1).filter (cohG x)) (fun p => L.length - p.1) (0, (v8, 8), cohL x) ⟨Nat.zero_le _, by simp⟩ (by repeat' (first | exact vP _ | exact vM _ | refine uL rfl ?_ | refine vF rfl ?_ | (refine uV rfl ?_ ?_; (simp [cohL]; try omega)) | (refine uN rfl ?_ ?_; (simp [cohL]; try omega)) | (refine vA rfl ?_ ?_; (simp [cohL]; try omega)))) (by repeat' (first | exact vP _ | exact vM _ | refine uL rfl ?_ | refine vF rfl ?_ | (refine uV rfl ?_ ?_; (first | (simp only [cohL, xH, List.map_append]; done) | (show List.map pairO' (cohL x) = _; unfold cohL; rw [xH, xH, List.map_append, List.map_append]) | (show _ = List.map pairO' (cohL x); unfold cohL; rw [xH, xH, List.map_append, List.map_append]))) | (refine uN rfl ?_ ?_; (first | (simp only [cohL, xH, List.map_append]; done) | (show List.map pairO' (cohL x) = _; unfold cohL; rw [xH, xH, List.map_append, List.map_append]) | (show _ = List.map pairO' (cohL x); unfold cohL; rw [xH, xH, List.map_append, List.map_append]))) | (refine vA rfl ?_ ?_; (first | (simp only [cohL, xH, List.map_append]; done) | (show List.map pairO' (cohL x) = _; unfold cohL; rw [xH, xH, List.map_append, List.map_append]) | (show _ = List.map pairO' (cohL x); unfold cohL; rw [xH, xH, List.map_append, List.map_append]))))) ?_
 rintro ⟨k, τ, l⟩ ⟨hk', hl⟩
 dsimp only at hk' hl ⊢
 have hlen : l.length ≤ 4096 := by
  rw [hl, List.length_append]
  have h5 := List.length_filter_le (cohG x) (L.take k)
  have h6 : (L.take k).length ≤ L.length := by simp; omega
  have h7 : (cohL x).length ≤ 3072 := by unfold cohL; simp only [List.length_append]; omega
  omega
 by_cases hlt : k < L.length
 ·obtain ⟨a, b, ha, hb, e1, e2⟩ := hmem k hlt
  have b1 : 0 ≤ (L.getD k default).1 := by omega
  have b2 : 0 ≤ (L.getD k default).2 := by omega
  have b3 : (L.getD k default).1 < x.evs.length := by omega
  have b4 : (L.getD k default).2 < x.evs.length := by omega
  have htk : L.take (k + 1) = L.take k ++ [L.getD k default] := wU L default k hlt
  have e1' : (L.getD ((k : Int)).toNat default).1 = (a : Int) := e1
  have e2' : (L.getD ((k : Int)).toNat default).2 = (b : Int) := e2
  iterate 2 refine uB ?_
  refine aoR fun _ => ?_
  iterate 2 refine q11 ?_
  refine q13 ?_; refine q37 (uC (uA ?_)); refine cnd ?_ ?_
  refine uI fun _ => ?_; try (exfalso; omega)
  refine uG (uA (uB (uF (uB ?_))))
  refine vE (E := E) ?_ (fun _ => ?_); exact rfl
  refine q52 ?_; refine q50 ?_
  iterate 2 refine q38 ?_
  refine q30 ?_; refine q52 ?_; refine q50 ?_; refine q30 ?_
  apply vT; exact rfl; exact rfl; exact rfl; exact Nat.le_of_ble_eq_true rfl
  refine q52 ?_; refine q50 ?_
  iterate 2 refine q38 ?_
  refine q30 ?_; refine q52 ?_; refine q50 ?_; refine q30 ?_
  apply vT; exact rfl; exact rfl; exact rfl; exact Nat.le_of_ble_eq_true rfl
  iterate 2 (apply eP; exact rfl)
  iterate 2 (apply zC; exact rfl; exact rfl; exact rfl; exact rfl; exact rfl; exact rfl; (first | exact rfl | exact uW (by omega) (0 : Int) | exact uW (by omega) default | exact wR (by omega) (by omega) (0 : Int) | assumption); exact Nat.le_of_ble_eq_true rfl)
  refine vV ?_ ?_; (first | ((try dsimp only [wkeys]); decide +kernel) | exact rfl)
  refine uA (uB (aoR fun _ => ?_))
  refine q28 ?_; refine q16 ?_; refine q44 ?_; refine q11 ?_
  apply spT; exact rfl
  intro hc_; refine q2
  apply spT; exact rfl
  intro hc_; refine q3
  apply spT; exact rfl
  intro hc_; refine q26; refine q4 ?_; refine q11 ?_
  apply spT; exact rfl
  intro hc_; refine q2
  apply spT; exact rfl
  intro hc_; refine q3
  apply spT; exact rfl
  intro hc_; refine q2
  apply spT; exact rfl
  intro hc_; refine q3
  apply spT; exact rfl
  intro hc_; refine q7; refine q4 (uC ?_); refine uA ?_
  refine cnd ?_ ?_
  iterate 2 refine xQ ?_
  iterate 2 (refine wX (fun _ => ?_); (try (exfalso; omega)))
  refine uI fun _ => ?_; try (exfalso; omega)
  refine aoR fun _ => ?_
  iterate 3 refine q11 ?_
  refine q17 ?_; refine q33 ?_
  apply wC; exact rfl; exact rfl; exact rfl; decide; decide; decide; exact rfl; exact rfl
  refine q19 ?_
  apply xF; exact rfl; exact rfl
  refine uC ?_; refine vI ?_; refine uA (aoR fun _ => ?_)
  refine q11 ?_; refine q36 ?_; refine q12 (uC (uA ?_)); rotate_left
  refine xE (fun hc_ => ?_); (try simp only [nrm] at hc_)
  refine uG ?_; refine vI ?_; refine uA (aoR fun _ => ?_)
  refine q11 ?_; refine q36 ?_; refine q12 (uC (uA ?_)); rotate_left
  refine uJ fun _ => ?_; try (exfalso; omega)
  ·rename_i g1 g2 g3 v10 _
   rw [e1', Int.toNat_natCast] at g1 g3
   rw [e2', Int.toNat_natCast] at g2 g3
   have hg2 : cohG x (L.getD k default) = true := by
    unfold cohG
    rw [e1, e2, Int.toNat_natCast, Int.toNat_natCast]
    rw [decide_eq_false g1, decide_eq_false g2, decide_eq_true g3]; rfl
   exact vJ (k + 1, (v10, 7), l ++ [L.getD k default]) ⟨by dsimp only; omega, by dsimp only; rw [hl, htk, List.filter_append, List.filter_cons, if_pos hg2, List.filter_nil, List.append_assoc]⟩ (by dsimp only; omega) (by repeat' (first | exact vP _ | exact vM _ | refine uL rfl ?_ | refine vF rfl ?_ | (refine uV rfl ?_ ?_; (simp <;> rfl)) | (refine uN rfl ?_ ?_; (simp <;> rfl)) | (refine vA rfl ?_ ?_; (simp <;> rfl)))) (by repeat' (first | exact vP _ | exact vM _ | refine uL rfl ?_ | refine vF rfl ?_ | (refine uV rfl ?_ ?_; (simp <;> rfl)) | (refine uN rfl ?_ ?_; (simp <;> rfl)) | (refine vA rfl ?_ ?_; (simp <;> rfl))))
  ·rw [e1', e2', Int.toNat_natCast, Int.toNat_natCast] at hc_
   have hg2 : cohG x (L.getD k default) = false := by
    unfold cohG
    rw [e1, e2, Int.toNat_natCast, Int.toNat_natCast]
    rcases hc_ with (h9 | h9) | h9
    ·rw [decide_eq_true h9]; simp only [Bool.not_true, Bool.and_false, Bool.false_and]
    ·rw [decide_eq_true h9]; simp only [Bool.not_true, Bool.and_false, Bool.false_and]
    ·rw [decide_eq_false h9]; simp only [Bool.and_false]
   exact vJ (k + 1, τ, l) ⟨by dsimp only; omega, by dsimp only; rw [hl, htk, List.filter_append, List.filter_cons, if_neg (by rw [hg2]; decide), List.filter_nil, List.append_nil]⟩ (by dsimp only; omega) leP leP
 ·have hkl : k = L.length := by omega
  have hL' : l = rcohL x := by rw [hl, hkl, List.take_length, ← hL]; rfl
  subst hL'
  have f3 : Frozen 3 := ⟨trivial⟩
  have hfz := xG
  have hC := jQ x.evs.length (rcohL x) (by omega) (jP x) (rcohL_len hN)
  iterate 2 refine uB ?_
  refine aoR fun _ => ?_
  iterate 2 refine q11 ?_
  refine q13 ?_; refine q37 (uC (uA ?_)); refine cnd ?_ ?_
  refine uI fun _ => ?_; try (exfalso; omega)
  refine uJ fun _ => ?_; try (exfalso; omega)
  refine uO ?_
  iterate 2 refine vH ?_
  refine vR ?_; refine uA (uB (aoR fun _ => ?_))
  refine q32 ?_; refine q23 ?_; refine q13 ?_; refine q41 ?_
  apply uP; exact rfl; exact .fn _ _ _; exact rfl; (exact hC)
  apply xV; exact rfl
  refine q12 (uC (uA ?_)); refine uH ?_; rotate_left
  exact vB rfl rfl
end Ren
set_option maxRecDepth 100000
def ratR (x : Ex) (n : Nat) : Int := if (x.evs.getD n default).kind = 3 then (n : Int) else pairedI x n
def ratM (x : Ex) (n f m : Nat) : Bool := !decide ((x.evs.getD m default).hart = (x.evs.getD n default).hart) && isCoB x f m && isCoB x m n
def ratEv (x : Ex) (n : Nat) : Bool := decide (ratR x n < 0) || (List.range x.evs.length).all fun m => !ratM x n (x.from_.getD (ratR x n).toNat 0).toNat m
def ratB (x : Ex) : Bool := (List.range x.evs.length).all (ratEv x)
theorem jV {es : List Ev} (hb : ∀ i, (es.getD i default).rsv = true → (es.getD i default).kind = 1 ∨ (es.getD i default).kind = 2) (f : Ev) : ∀ k, 0 ≤ pairTo es f k → (es.getD (pairTo es f k).toNat default).ldB = true
 | 0, h => by unfold pairTo at h; omega
 | k + 1, h => by
  have ih := jV hb f k
  have hq := hb k
  unfold pairTo at h ⊢
  by_cases h1 : (es.getD k default).hart = f.hart
  ·rw [if_pos h1] at h ⊢
   by_cases h2 : (es.getD k default).rsv = true
   ·rw [if_pos h2] at h ⊢
    by_cases h3 : (es.getD k default).kind = 2
    ·rw [if_pos h3] at h; omega
    ·rw [if_neg h3] at h ⊢
     by_cases h4 : (es.getD k default).addr = f.addr
     ·rw [if_pos h4] at h ⊢
      rw [Int.toNat_natCast]
      unfold Ev.ldB
      have := (hq h2).resolve_right h3
      rw [this]; rfl
     ·rw [if_neg h4] at h; omega
   ·rw [if_neg h2] at h ⊢; exact ih h
  ·rw [if_neg h1] at h; omega
theorem oP {x : Ex} (hx : x.rel) {n : Nat} (hn : n < x.evs.length) (h : 0 ≤ ratR x n) : ratR x n ≤ n ∧ 0 ≤ x.from_.getD (ratR x n).toNat 0 ∧ x.from_.getD (ratR x n).toNat 0 < x.evs.length := by
 have hok := eS hx.fit.1 hx.check
 unfold ratR at h ⊢
 split
 ·rename_i h3
  refine ⟨Int.le_refl _, ?_⟩
  rw [Int.toNat_natCast]
  exact hx.src n hn (by unfold Ev.ldB; rw [h3]; rfl)
 ·rename_i h3
  rw [if_neg h3] at h
  unfold pairedI at h ⊢
  split
  ·rename_i h4
   rw [if_pos h4] at h
   have hb := eU x.evs (x.evs.getD n default) n
   refine ⟨by omega, hx.src _ (by omega) (jV hok.rsv _ _ h)⟩
  ·rename_i h4
   rw [if_neg h4] at h; omega
set_option maxHeartbeats 4000000 in
theorem ratomic_p (x : Ex) (hx : x.rel) : Pure E.P 20 [exOV x] (.bool (ratB x)) := by
 have f1 : Frozen 1 := ⟨trivial⟩
 have hl := hx.len
 have hlf := hx.from_
 have hok := eS hx.fit.1 hx.check
 refine fnA Tryz.func20 Tryz.ntmps20 ?_
 refine uB (aoR fun _ => ?_)
 refine q34 ?_; refine q12 (uC (uA ?_))
 iterate 2 refine uB ?_
 refine aoR fun _ => ?_; refine q12 (uC (uA (uF ?_)))
 rotate_left
 refine uZ (X := Nat) (fun n => tmL [(1, .d (.pt (exRow x) 0)), (3, .int .i64 n)]) (fun _ => stL []) (fun n => n ≤ x.evs.length ∧ ∀ j, j < n → ratEv x j = true) (fun n => x.evs.length - n) 0 ⟨Nat.zero_le _, fun j hj => by omega⟩ leP leP ?_
 rintro n ⟨hn, hall⟩
 by_cases hlt : n < x.evs.length
 rotate_left
 ·iterate 2 refine uB ?_
  refine aoR fun _ => ?_; refine q11 ?_; refine q32 ?_; refine q23 ?_; refine q13 ?_; refine q37 (uC (uA ?_))
  refine cnd ?_ ?_
  refine uI fun _ => ?_; try (exfalso; omega)
  refine uJ fun _ => ?_; try (exfalso; omega)
  refine uO ?_
  iterate 2 refine vH ?_
  refine vR ?_; refine uA (uB (aoR fun _ => ?_))
  refine q12 (uC (uA ?_)); refine uH ?_; rotate_left
  refine vB rfl ?_
  unfold ratB
  refine (List.all_eq_true.2 fun j hj => hall j ?_).symm
  have := List.mem_range.1 hj
  omega
 have hnext : ratEv x n = true → ∀ j, j < n + 1 → ratEv x j = true := fun h j hj => by
  rcases Nat.lt_or_ge j n with e | e
  ·exact hall j e
  ·rw [show j = n by omega]; exact h
 have hP := jN x hok n hlt
 have hbd := fun h => oP hx hlt h
 by_cases hk : (x.evs.getD n default).kind = 3
 ·have hk' : (x.evs.getD (n : Int).toNat default).kind = 3 := hk
  have hR : ratR x n = (n : Int) := by unfold ratR; rw [if_pos hk]
  have hR0 : (0 : Int) ≤ (n : Int) := by omega
  rw [hR] at hbd
  iterate 2 refine uB ?_
  refine aoR fun _ => ?_; refine q11 ?_; refine q32 ?_; refine q23 ?_; refine q13 ?_; refine q37 (uC (uA ?_))
  refine cnd ?_ ?_
  refine uI fun _ => ?_; try (exfalso; omega)
  refine uG (uA (uB (uF (uB (aoR fun _ => ?_)))))
  refine q33 ?_; refine q11 ?_
  apply uP; exact rfl; exact .fn _ _ _; exact rfl; exact hP
  refine q12 (uC (uA ?_))
  iterate 2 refine uB ?_
  refine aoR fun _ => ?_; refine q32 ?_; refine q23 ?_; refine q11 ?_; refine q17 ?_; refine q32 ?_; refine q23 ?_; refine q46 (uC (uA ?_))
  refine cnd ?_ ?_
  refine uI fun _ => ?_; try (exfalso; omega)
  refine aoR fun _ => ?_; refine q11 ?_; refine q12 (uC (uA ?_))
  iterate 2 refine uB ?_
  refine aoR fun _ => ?_; refine q11 ?_; refine q37 (uC (uA ?_))
  refine cnd ?_ ?_
  refine uI fun _ => ?_; try (exfalso; omega)
  refine uJ fun _ => ?_; try (exfalso; omega)
  refine uG (uA (uB (aoR fun _ => ?_)))
  refine q12 (uC (uA (uF ?_))); rotate_left
  iterate 2 refine uJ fun _ => ?_; try (exfalso; omega)
  obtain ⟨hb1, hb2, hb3⟩ := hbd hR0
  obtain ⟨f, hf⟩ : ∃ f : Nat, x.from_.getD (((n : Nat) : Int)).toNat 0 = (f : Int) := ⟨_, (Int.toNat_of_nonneg hb2).symm⟩
  have hE : ratEv x n = (List.range x.evs.length).all fun m => !ratM x n f m := by
   unfold ratEv
   rw [hR, decide_eq_false (by omega), Bool.false_or, hf, Int.toNat_natCast]
  have hrf : 0 ≤ ((n : Nat) : Int) ∧ ((n : Nat) : Int) < x.from_.length := by omega
  refine uZ (X := Nat) (fun m => tmL [(1, .d (.pt (exRow x) 0)), (3, .int .i64 n), (4, .int .i64 (((n : Nat) : Int))), (5, .int .i64 m)]) (fun _ => stL []) (fun m => m ≤ x.evs.length ∧ ∀ j, j < m → ratM x n f j = false) (fun m => x.evs.length - m) 0 ⟨Nat.zero_le _, fun j hj => by omega⟩ leP leP ?_
  rintro m ⟨hm, hms⟩
  by_cases hltm : m < x.evs.length
  rotate_left
  ·iterate 2 refine uB ?_
   refine aoR fun _ => ?_; refine q11 ?_; refine q32 ?_; refine q23 ?_; refine q13 ?_; refine q37 (uC (uA ?_))
   refine cnd ?_ ?_
   refine uI fun _ => ?_; try (exfalso; omega)
   refine uJ fun _ => ?_; try (exfalso; omega)
   refine uO ?_
   iterate 2 refine vH ?_
   refine vR ?_; refine vI ?_; refine uA (aoR fun _ => ?_)
   refine q11 ?_; refine q36 ?_; refine q12 (uC (uA ?_)); rotate_left
   refine vJ (n + 1) ⟨by omega, hnext ?_⟩ (by omega) leP leP
   rw [hE, List.all_eq_true]
   intro j hj
   have := List.mem_range.1 hj
   rw [hms j (by omega)]; rfl
  have c1 := aN x (by omega) hx.ord hx.rows f m (by omega) hltm
  have c2 := aN x (by omega) hx.ord hx.rows m n hltm hlt
  rw [← hf] at c1
  iterate 2 refine uB ?_
  refine aoR fun _ => ?_; refine q11 ?_; refine q32 ?_; refine q23 ?_; refine q13 ?_; refine q37 (uC (uA ?_))
  refine cnd ?_ ?_
  refine uI fun _ => ?_; try (exfalso; omega)
  refine uG (uA (uB (uF (uB ?_))))
  refine vE (E := E) ?_ (fun _ => ?_); exact rfl
  refine q52 ?_; refine q50 ?_; refine q38 ?_; refine q30 ?_; refine q52 ?_; refine q50 ?_; refine q52 ?_; refine q50 ?_; refine q38 ?_; refine q30 ?_; refine q52 ?_; refine q50 ?_
  apply jB; exact rfl; exact rfl
  refine q38 ?_
  apply dpT; exact rfl
  intro hc_; refine q47
  apply dpT; exact rfl
  intro hc_; refine q8
  apply dpT; exact rfl
  intro hc_; refine q6
  apply dpT; exact rfl
  intro hc_; refine q1
  apply dpT; exact rfl
  intro hc_
  have hp_ := hc_; try simp only [nrm] at hp_
  refine q5
  apply dpT; exact rfl
  intro hc_; refine q6
  apply dpT; exact rfl
  intro hc_; refine q1
  apply dpT; exact rfl
  intro hc_
  have hp_ := hc_; try simp only [nrm] at hp_
  apply vK; (exact EvM.plain rfl rfl); exact .fn _ _ _; exact wB; (exact c1)
  refine q9 ?_; refine q38 ?_
  apply dpT; exact rfl
  intro hc_; refine q47
  apply dpT; exact rfl
  intro hc_; refine q1
  apply dpT; exact rfl
  intro hc_; refine q1
  apply dpT; exact rfl
  intro hc_
  have hp_ := hc_; try simp only [nrm] at hp_
  apply vK; (exact EvM.plain rfl rfl); exact .fn _ _ _; exact wB; (exact c2)
  refine q9 ?_
  refine vV ?_ ?_; (first | ((try dsimp only [wkeys]); decide +kernel) | exact rfl)
  refine uA ?_; refine cnd ?_ ?_
  iterate 2 refine xQ ?_
  refine wX (fun _ => ?_); (try (exfalso; omega))
  iterate 2 (refine xJ (fun _ => ?_))
  refine uB (aoR fun _ => ?_)
  refine q12 (uC (uA ?_)); refine uH ?_; refine vO ?_
  iterate 2 refine uR ?_
  iterate 2 refine vO ?_
  iterate 2 refine uR ?_
  refine vO ?_; refine uR ?_; rotate_left
  refine xE (fun hc_ => ?_); (try simp only [nrm] at hc_)
  refine uG ?_; refine vI ?_; refine uA (aoR fun _ => ?_)
  refine q11 ?_; refine q36 ?_; refine q12 (uC (uA ?_)); rotate_left
  refine uJ fun _ => ?_; try (exfalso; omega)
  ·rename_i g1 g2 g3 _
   have hM : ratM x n f m = true := by
    have g1' : ¬ (x.evs.getD m default).hart = (x.evs.getD n default).hart := g1
    unfold ratM
    rw [decide_eq_false g1', g2, g3]; rfl
   refine vB rfl ?_
   have he : ratEv x n = false := by
    rw [hE, List.all_eq_false]
    exact ⟨m, List.mem_range.2 hltm, by rw [hM]; decide⟩
   unfold ratB
   refine (List.all_eq_false.2 ⟨n, List.mem_range.2 hlt, by rw [he]; decide⟩).symm
  ·refine vJ (m + 1) ⟨by omega, fun j hj => ?_⟩ (by omega) leP leP
   rcases Nat.lt_or_ge j m with e | e
   ·exact hms j e
   ·rw [show j = m by omega]
    have h9 := hc_
    simp only [Int.toNat_natCast] at h9
    cases hM : ratM x n f m with
    | false => rfl
    | true =>
     exfalso
     unfold ratM at hM
     simp only [Bool.and_eq_true, Bool.not_eq_true', decide_eq_false_iff_not] at hM
     obtain ⟨⟨g1, g2⟩, g3⟩ := hM
     rcases h9 with (h | h) | h
     ·exact g1 h
     ·rw [g2] at h; exact absurd h (by decide)
     ·rw [g3] at h; exact absurd h (by decide)
 ·have hk' : ¬ (x.evs.getD (n : Int).toNat default).kind = 3 := hk
  have hR : ratR x n = pairedI x n := by unfold ratR; rw [if_neg hk]
  by_cases hR0 : 0 ≤ pairedI x n
  ·rw [hR] at hbd
   iterate 2 refine uB ?_
   refine aoR fun _ => ?_; refine q11 ?_; refine q32 ?_; refine q23 ?_; refine q13 ?_; refine q37 (uC (uA ?_))
   refine cnd ?_ ?_
   refine uI fun _ => ?_; try (exfalso; omega)
   refine uG (uA (uB (uF (uB (aoR fun _ => ?_)))))
   refine q33 ?_; refine q11 ?_
   apply uP; exact rfl; exact .fn _ _ _; exact rfl; exact hP
   refine q12 (uC (uA ?_))
   iterate 2 refine uB ?_
   refine aoR fun _ => ?_; refine q32 ?_; refine q23 ?_; refine q11 ?_; refine q17 ?_; refine q32 ?_; refine q23 ?_; refine q46 (uC (uA ?_))
   refine cnd ?_ ?_
   refine uI fun _ => ?_; try (exfalso; omega)
   refine uJ fun _ => ?_; try (exfalso; omega)
   refine uG (uA ?_)
   iterate 2 refine uB ?_
   refine aoR fun _ => ?_; refine q11 ?_; refine q37 (uC (uA ?_))
   refine cnd ?_ ?_
   refine uI fun _ => ?_; try (exfalso; omega)
   refine uJ fun _ => ?_; try (exfalso; omega)
   refine uG (uA (uB (aoR fun _ => ?_)))
   refine q12 (uC (uA (uF ?_))); rotate_left
   refine uJ fun _ => ?_; try (exfalso; omega)
   obtain ⟨hb1, hb2, hb3⟩ := hbd hR0
   obtain ⟨f, hf⟩ : ∃ f : Nat, x.from_.getD (pairedI x n).toNat 0 = (f : Int) := ⟨_, (Int.toNat_of_nonneg hb2).symm⟩
   have hE : ratEv x n = (List.range x.evs.length).all fun m => !ratM x n f m := by
    unfold ratEv
    rw [hR, decide_eq_false (by omega), Bool.false_or, hf, Int.toNat_natCast]
   have hrf : 0 ≤ pairedI x n ∧ pairedI x n < x.from_.length := by omega
   refine uZ (X := Nat) (fun m => tmL [(1, .d (.pt (exRow x) 0)), (3, .int .i64 n), (4, .int .i64 (pairedI x n)), (5, .int .i64 m)]) (fun _ => stL []) (fun m => m ≤ x.evs.length ∧ ∀ j, j < m → ratM x n f j = false) (fun m => x.evs.length - m) 0 ⟨Nat.zero_le _, fun j hj => by omega⟩ leP leP ?_
   rintro m ⟨hm, hms⟩
   by_cases hltm : m < x.evs.length
   rotate_left
   ·iterate 2 refine uB ?_
    refine aoR fun _ => ?_; refine q11 ?_; refine q32 ?_; refine q23 ?_; refine q13 ?_; refine q37 (uC (uA ?_))
    refine cnd ?_ ?_
    refine uI fun _ => ?_; try (exfalso; omega)
    refine uJ fun _ => ?_; try (exfalso; omega)
    refine uO ?_
    iterate 2 refine vH ?_
    refine vR ?_; refine vI ?_; refine uA (aoR fun _ => ?_)
    refine q11 ?_; refine q36 ?_; refine q12 (uC (uA ?_)); rotate_left
    refine vJ (n + 1) ⟨by omega, hnext ?_⟩ (by omega) leP leP
    rw [hE, List.all_eq_true]
    intro j hj
    have := List.mem_range.1 hj
    rw [hms j (by omega)]; rfl
   have c1 := aN x (by omega) hx.ord hx.rows f m (by omega) hltm
   have c2 := aN x (by omega) hx.ord hx.rows m n hltm hlt
   rw [← hf] at c1
   iterate 2 refine uB ?_
   refine aoR fun _ => ?_; refine q11 ?_; refine q32 ?_; refine q23 ?_; refine q13 ?_; refine q37 (uC (uA ?_))
   refine cnd ?_ ?_
   refine uI fun _ => ?_; try (exfalso; omega)
   refine uG (uA (uB (uF (uB ?_))))
   refine vE (E := E) ?_ (fun _ => ?_); exact rfl
   refine q52 ?_; refine q50 ?_; refine q38 ?_; refine q30 ?_; refine q52 ?_; refine q50 ?_; refine q52 ?_; refine q50 ?_; refine q38 ?_; refine q30 ?_; refine q52 ?_; refine q50 ?_
   apply jB; exact rfl; exact rfl
   refine q38 ?_
   apply dpT; exact rfl
   intro hc_; refine q47
   apply dpT; exact rfl
   intro hc_; refine q8
   apply dpT; exact rfl
   intro hc_; refine q6
   apply dpT; exact rfl
   intro hc_; refine q1
   apply dpT; exact rfl
   intro hc_
   have hp_ := hc_; try simp only [nrm] at hp_
   refine q5
   apply dpT; exact rfl
   intro hc_; refine q6
   apply dpT; exact rfl
   intro hc_; refine q1
   apply dpT; exact rfl
   intro hc_
   have hp_ := hc_; try simp only [nrm] at hp_
   apply vK; (exact EvM.plain rfl rfl); exact .fn _ _ _; exact wB; (exact c1)
   refine q9 ?_; refine q38 ?_
   apply dpT; exact rfl
   intro hc_; refine q47
   apply dpT; exact rfl
   intro hc_; refine q1
   apply dpT; exact rfl
   intro hc_; refine q1
   apply dpT; exact rfl
   intro hc_
   have hp_ := hc_; try simp only [nrm] at hp_
   apply vK; (exact EvM.plain rfl rfl); exact .fn _ _ _; exact wB; (exact c2)
   refine q9 ?_
   refine vV ?_ ?_; (first | ((try dsimp only [wkeys]); decide +kernel) | exact rfl)
   refine uA ?_; refine cnd ?_ ?_
   iterate 2 refine xQ ?_
   refine wX (fun _ => ?_); (try (exfalso; omega))
   iterate 2 (refine xJ (fun _ => ?_))
   refine uB (aoR fun _ => ?_)
   refine q12 (uC (uA ?_)); refine uH ?_; refine vO ?_
   iterate 2 refine uR ?_
   iterate 2 refine vO ?_
   iterate 2 refine uR ?_
   refine vO ?_; refine uR ?_; rotate_left
   refine xE (fun hc_ => ?_); (try simp only [nrm] at hc_)
   refine uG ?_; refine vI ?_; refine uA (aoR fun _ => ?_)
   refine q11 ?_; refine q36 ?_; refine q12 (uC (uA ?_)); rotate_left
   refine uJ fun _ => ?_; try (exfalso; omega)
   ·rename_i g1 g2 g3 _
    have hM : ratM x n f m = true := by
     have g1' : ¬ (x.evs.getD m default).hart = (x.evs.getD n default).hart := g1
     unfold ratM
     rw [decide_eq_false g1', g2, g3]; rfl
    refine vB rfl ?_
    have he : ratEv x n = false := by
     rw [hE, List.all_eq_false]
     exact ⟨m, List.mem_range.2 hltm, by rw [hM]; decide⟩
    unfold ratB
    refine (List.all_eq_false.2 ⟨n, List.mem_range.2 hlt, by rw [he]; decide⟩).symm
   ·refine vJ (m + 1) ⟨by omega, fun j hj => ?_⟩ (by omega) leP leP
    rcases Nat.lt_or_ge j m with e | e
    ·exact hms j e
    ·rw [show j = m by omega]
     have h9 := hc_
     simp only [Int.toNat_natCast] at h9
     cases hM : ratM x n f m with
     | false => rfl
     | true =>
      exfalso
      unfold ratM at hM
      simp only [Bool.and_eq_true, Bool.not_eq_true', decide_eq_false_iff_not] at hM
      obtain ⟨⟨g1, g2⟩, g3⟩ := hM
      rcases h9 with (h | h) | h
      ·exact g1 h
      ·rw [g2] at h; exact absurd h (by decide)
      ·rw [g3] at h; exact absurd h (by decide)
  ·iterate 2 refine uB ?_
   refine aoR fun _ => ?_; refine q11 ?_; refine q32 ?_; refine q23 ?_; refine q13 ?_; refine q37 (uC (uA ?_))
   refine cnd ?_ ?_
   refine uI fun _ => ?_; try (exfalso; omega)
   refine uG (uA (uB (uF (uB (aoR fun _ => ?_)))))
   refine q33 ?_; refine q11 ?_
   apply uP; exact rfl; exact .fn _ _ _; exact rfl; exact hP
   refine q12 (uC (uA ?_))
   iterate 2 refine uB ?_
   refine aoR fun _ => ?_; refine q32 ?_; refine q23 ?_; refine q11 ?_; refine q17 ?_; refine q32 ?_; refine q23 ?_; refine q46 (uC (uA ?_))
   refine cnd ?_ ?_
   refine uI fun _ => ?_; try (exfalso; omega)
   refine uJ fun _ => ?_; try (exfalso; omega)
   refine uG (uA ?_)
   iterate 2 refine uB ?_
   refine aoR fun _ => ?_; refine q11 ?_; refine q37 (uC (uA ?_))
   refine cnd ?_ ?_
   refine uI fun _ => ?_; try (exfalso; omega)
   refine uO ?_; refine vH ?_; refine vR ?_; refine uA (aoR fun _ => ?_)
   refine q11 ?_; refine q36 ?_; refine q12 (uC (uA ?_)); rotate_left
   iterate 2 refine uJ fun _ => ?_; try (exfalso; omega)
   refine vJ (n + 1) ⟨by omega, hnext ?_⟩ (by omega) leP leP
   unfold ratEv
   rw [hR, decide_eq_true (by omega), Bool.true_or]
theorem mY {l : List Int} {a k p : Nat} (hp : p < ((l.drop a).take k).length) : ((l.drop a).take k).getD p 0 = l.getD (a + p) 0 ∧ a + p < l.length ∧ p < k := by
 have h1 : p < k ∧ a + p < l.length := by
  rw [List.length_take, List.length_drop] at hp; omega
 refine ⟨?_, h1.2, h1.1⟩
 rw [List.getD_eq_getElem?_getD, List.getElem?_take_of_lt h1.1, List.getElem?_drop, ← List.getD_eq_getElem?_getD]
theorem pA {l : List Int} {a : Int} (h : 0 ≤ atI l a) : l.getD (atI l a).toNat 0 = a ∧ (atI l a).toNat < l.length := by
 have hm : a ∈ l := by
  rcases Classical.em (a ∈ l) with hm | hm
  ·exact hm
  ·have : atI l a = -1 := fK hm
   omega
 have main : ∀ (l : List Int) (k : Nat), a ∈ l → ∃ i, i < l.length ∧ l.getD i 0 = a ∧ atFrom a l k = ((k + i : Nat) : Int) := by
  intro l
  induction l with
  | nil => intro k hm; cases hm
  | cons b r ih =>
   intro k hm
   unfold atFrom
   by_cases e : b = a
   ·rw [if_pos e]
    exact ⟨0, by simp, e, by simp⟩
   ·rw [if_neg e]
    obtain ⟨i, h1, h2, h3⟩ := ih (k + 1) ((List.mem_cons.1 hm).resolve_left fun h => e h.symm)
    exact ⟨i + 1, by simpa using h1, h2, by rw [h3]; congr 1; omega⟩
 obtain ⟨i, h1, h2, h3⟩ := main l 0 hm
 have e : atI l a = i := by unfold atI; rw [h3]; simp
 rw [e, Int.toNat_natCast]
 exact ⟨h2, h1⟩
theorem lG {l : List Int} (hn : l.Nodup) {i : Nat} (hi : i < l.length) {a : Int} (e : l.getD i 0 = a) : atI l a = i := by
 have := dG (k := 0) hn hi e
 rw [Nat.zero_add] at this
 exact this
section
variable {x : Ex}
theorem reads_rat (hx : x.rel) {n : Nat} (hn : n < x.evs.length) : (readsR x n).2 = decide (0 ≤ ratR x n) ∧ ((readsR x n).2 = true → (readsR x n).1 = ratR x n) := by
 unfold readsR ratR
 by_cases hk : (x.evs.getD n default).kind = 3
 ·rw [if_pos hk, if_pos hk]
  exact ⟨(decide_eq_true (by omega)).symm, fun _ => rfl⟩
 ·rw [if_neg hk, if_neg hk]
  unfold pairedR
  rw [Int.toNat_natCast]
  by_cases h0 : 0 ≤ pairedI x n
  ·rw [if_pos ⟨hx.check, by omega, by omega, h0⟩]
   exact ⟨(decide_eq_true h0).symm, fun _ => rfl⟩
  ·rw [if_neg (fun h => h0 h.2.2.2)]
   exact ⟨(decide_eq_false h0).symm, fun h => by cases h⟩
theorem atom_ev (hx : x.rel) {n : Nat} (hn : n < x.evs.length) : atomEv x n = ratEv x n := by
 obtain ⟨h1, h2⟩ := reads_rat hx hn
 by_cases h0 : 0 ≤ ratR x n
 rotate_left
 ·unfold atomEv ratEv
  rw [h1, decide_eq_false h0, decide_eq_true (show ratR x n < 0 by omega)]; rfl
 rw [decide_eq_true h0] at h1
 have h3 := h2 h1
 obtain ⟨b1, b2, b3⟩ := oP hx hn h0
 have ho := (vX hx.check).2.2.2
 obtain ⟨f, hf⟩ : ∃ f : Nat, x.from_.getD (ratR x n).toNat 0 = (f : Int) := ⟨_, (Int.toNat_of_nonneg b2).symm⟩
 have hfl : f < x.evs.length := by omega
 unfold atomEv ratEv
 rw [h1, h3, hf, decide_eq_false (show ¬ ratR x n < 0 by omega), Bool.not_true, Bool.false_or, Bool.false_or, Int.toNat_natCast, Bool.eq_iff_iff, List.all_eq_true, List.all_eq_true]
 constructor
 ·intro hall m hm
  have hm := List.mem_range.1 hm
  cases hM : ratM x n f m with
  | false => rfl
  | true =>
   exfalso
   unfold ratM at hM
   simp only [Bool.and_eq_true, Bool.not_eq_true', decide_eq_false_iff_not] at hM
   obtain ⟨⟨g1, g2⟩, g3⟩ := hM
   rw [← fB hx.check hfl hm] at g2
   rw [← fB hx.check hm hn] at g3
   unfold coB at g2 g3
   obtain ⟨r, i, j, hr, a2, a3, a4, a5⟩ := eE (of_decide_eq_true g2)
   obtain ⟨r', i', j', hr', c2, c3, c4, c5⟩ := eE (of_decide_eq_true g3)
   have e1 := (bK ho hr a3 a5).2.2
   have e2 := (bK ho hr' (by omega) c4).2.2
   have er := gS ho hr hr' (e1.symm.trans e2)
   subst er
   have hnd := aG ho hr
   have hij : j = i' := by
    have q1 := lG hnd a3 a5
    have q2 := lG hnd (show i' < _ by omega) c4
    omega
   subst hij
   have qf := lG hnd (show i < _ by omega) a4
   have qn := lG hnd c3 c5
   have hmem : x.order.getD r default ∈ x.order := by
    rw [List.getD_eq_getElem?_getD, List.getElem?_eq_getElem hr]; exact List.getElem_mem hr
   have hrow := hall _ hmem
   unfold atomRow at hrow
   rw [qf, qn, decide_eq_false (by omega), decide_eq_false (by omega), Bool.false_or, Bool.false_or, List.all_eq_true] at hrow
   have hlo : atomLo n (f : Int) (x.order.getD r default).2 = i + 1 := by unfold atomLo; rw [qf, qn]; omega
   have hms : (m : Int) ∈ atomSl n (f : Int) (x.order.getD r default).2 := by
    unfold atomSl
    rw [hlo, qn, Int.toNat_natCast]
    have hp : j - (i + 1) < (((x.order.getD r default).2.drop (i + 1)).take (j' - (i + 1))).length := by
     rw [List.length_take, List.length_drop]; omega
    have := (mY hp).1
    rw [show i + 1 + (j - (i + 1)) = j by omega, a5] at this
    rw [← this]
    exact cH hp
   have := hrow _ hms
   unfold atomM at this
   rw [Int.toNat_natCast] at this
   exact g1 (of_decide_eq_true this)
 ·intro hall row hrow
  obtain ⟨r, hr, rfl⟩ := List.mem_iff_getElem.1 hrow
  have er : x.order.getD r default = x.order[r] := by rw [List.getD_eq_getElem?_getD, List.getElem?_eq_getElem hr]; rfl
  rw [← er]
  have hnd := aG ho hr
  unfold atomRow
  by_cases hfn : atI (x.order.getD r default).2 (f : Int) < 0 ∨ atI (x.order.getD r default).2 (n : Int) < 0
  ·rcases hfn with h | h
   ·rw [decide_eq_true h]; rfl
   ·rw [decide_eq_true h, Bool.or_true]; rfl
  ·have hf0 : 0 ≤ atI (x.order.getD r default).2 (f : Int) := by omega
   have hn0 : 0 ≤ atI (x.order.getD r default).2 (n : Int) := by omega
   obtain ⟨pf1, pf2⟩ := pA hf0
   obtain ⟨pn1, pn2⟩ := pA hn0
   rw [decide_eq_false (by omega), decide_eq_false (by omega), Bool.false_or, Bool.false_or, List.all_eq_true]
   intro m hm
   unfold atomSl at hm
   obtain ⟨p, hp, e⟩ := List.mem_iff_getElem.1 hm
   have e' := (mY hp)
   rw [List.getD_eq_getElem?_getD, List.getElem?_eq_getElem hp, Option.getD_some, e] at e'
   obtain ⟨q1, q2, q3⟩ := e'
   have hlo1 : (atI (x.order.getD r default).2 (f : Int)).toNat + 1 ≤ atomLo n (f : Int) (x.order.getD r default).2 + p := by unfold atomLo at *; omega
   have hlo2 : atomLo n (f : Int) (x.order.getD r default).2 + p < (atI (x.order.getD r default).2 (n : Int)).toNat := by omega
   have hm0 := oK hx.check hr _ q2
   rw [← q1] at hm0
   obtain ⟨m', hm'⟩ : ∃ m' : Nat, m = (m' : Int) := ⟨m.toNat, (Int.toNat_of_nonneg hm0.1).symm⟩
   subst hm'
   have hml : m' < x.evs.length := by omega
   unfold atomM
   rw [Int.toNat_natCast]
   have hM := hall m' (List.mem_range.2 hml)
   rw [Bool.not_eq_true'] at hM
   by_cases hh : (x.evs.getD m' default).hart = (x.evs.getD n default).hart
   ·exact decide_eq_true hh
   ·exfalso
    have c1 : coB x f m' = true := decide_eq_true ((dR _ _).2 ⟨r, hr, (bR _ _ _).2 ⟨_, _, by omega, q2, pf1, q1.symm⟩⟩)
    have c2 : coB x m' n = true := decide_eq_true ((dR _ _).2 ⟨r, hr, (bR _ _ _).2 ⟨_, _, hlo2, pn2, q1.symm, pn1⟩⟩)
    rw [fB hx.check hfl hml] at c1
    rw [fB hx.check hml hn] at c2
    unfold ratM at hM
    rw [decide_eq_false hh, c1, c2] at hM
    exact absurd hM (by decide)
theorem atom_eq (hx : x.rel) : atomB x = ratB x := by
 unfold atomB ratB
 rw [Bool.eq_iff_iff, List.all_eq_true, List.all_eq_true]
 refine forall_congr' fun n => forall_congr' fun hn => ?_
 rw [atom_ev hx (List.mem_range.1 hn)]
end
set_option maxRecDepth 100000
abbrev V3 := Bool × Bool × Bool
def judOV (b : V3) : OV := .ag [.bool b.1, .bool b.2.1, .bool b.2.2]
def eqV (a b : V3) : Bool := a.1 == b.1 && (a.2.1 == b.2.1 && a.2.2 == b.2.2)
theorem eqVer_run (a b : V3) (w : World) : (Op.equalIn 10000 34 (.agg #[.bool a.1, .bool a.2.1, .bool a.2.2]) (.agg #[.bool b.1, .bool b.2.1, .bool b.2.2])).run Tryz.prog w = .ok (eqV a b) w := by
 obtain ⟨a1, a2, a3⟩ := a
 obtain ⟨b1, b2, b3⟩ := b
 cases a1 <;> cases a2 <;> cases a3 <;> cases b1 <;> cases b2 <;> cases b3 <;> kernel_rfl
theorem oF {G : Gh} {p : V3} {u : Value} (h : RepO G (judOV p) u) : u = .agg #[.bool p.1, .bool p.2.1, .bool p.2.2] := by
 unfold judOV at h
 rw [RepO] at h
 obtain ⟨cs, rfl, h⟩ := h
 rw [RepOL] at h
 obtain ⟨a, l, e1, h1, h⟩ := h
 rw [RepOL] at h
 obtain ⟨b, l2, rfl, h2, h⟩ := h
 rw [RepOL] at h
 obtain ⟨c, l3, rfl, h3, h⟩ := h
 rw [RepOL] at h
 subst h
 have := vZ h1
 have := vZ h2
 have := vZ h3
 subst a b c
 rw [show cs = cs.toList.toArray by simp, e1]
section
variable {v j : Nat} {ops : Array Oper} {K : Tm → Store → Prop} {KD : List Foot → Tm → Store → Prop} {acc : List Foot} {rest : List Oper} {tm : Tm} {σ : Store} {dst : Option Tmp} {ty : TypeId} {pos : String} {af : Array Edge} {gd : Option (Nat × Bool)}
theorem qF {x y : Operand} {T' : TypeId} {p q : V3} (hx : ev tm x = some (judOV p)) (hy : ev tm y = some (judOV q)) :
  YL E.P v j ⟨dst, .binOp .eql 34 x y T', ty, pos, af, gd⟩ tm σ [] (.bool (eqV p q)) [] := iY hx hy (fun M u w' w hu hv => by
 rw [oF hu, oF hv]
 exact ⟨run_eqGuard_agg w _ _ _ _ _ _ (by kernel_rfl), by
  rw [run_eql_struct, show E.P = Tryz.prog from rfl, eqVer_run]; rfl⟩) rfl
theorem qH {x y : Operand} {T' : TypeId} (p q : V3) (hx : ev tm x = some (judOV p)) (hy : ev tm y = some (judOV q)) (hcont : AO E.P v ops K (j + 1) rest (tm.putO dst (.bool (eqV p q))) (σ.apply [])) : AO E.P v ops K j (⟨dst, .binOp .eql 34 x y T', ty, pos, af, none⟩ :: rest) tm σ := vC (qF hx hy) hcont
theorem M_eqlV {x y : Operand} {T' : TypeId} (p q : V3) (hx : EvM tm x (judOV p)) (hy : EvM tm y (judOV q)) : YL E.P v j ⟨dst, .binOp .eql 34 x y T', ty, pos, af, gd⟩ tm σ [] (.bool (eqV p q)) [] := (qF hx.st hy.st).strip
end
set_option maxRecDepth 100000
open Go.RowKit Go.Maps
def pcohL (x : Ex) : List (Int × Int) := (refPairs x.evs.length (isPo x)).filter (cohG x) ++ (rfF x ++ (coF x ++ frF x))
theorem mO {x : Ex} (hx : x.rel) (p : Int × Int) : p ∈ pcohL x ↔ p ∈ rcohL x := by
 unfold pcohL rcohL cohL
 rw [gK hx, gI hx, bL hx.check]
 simp only [List.mem_append]
 constructor
 ·rintro (h | h | h | h)
  ·exact Or.inr h
  ·exact Or.inl (Or.inl (Or.inl h))
  ·exact Or.inl (Or.inl (Or.inr h))
  ·exact Or.inl (Or.inr h)
 ·rintro (((h | h) | h) | h)
  ·exact Or.inr (Or.inl h)
  ·exact Or.inr (Or.inr (Or.inl h))
  ·exact Or.inr (Or.inr (Or.inr h))
  ·exact Or.inl h
theorem any_congr {α : Type} {l l' : List α} (h : ∀ p, p ∈ l ↔ p ∈ l') (f : α → Bool) : l.any f = l'.any f := by
 rw [Bool.eq_iff_iff, List.any_eq_true, List.any_eq_true]
 exact ⟨fun ⟨q, h1, h2⟩ => ⟨q, (h q).1 h1, h2⟩, fun ⟨q, h1, h2⟩ => ⟨q, (h q).2 h1, h2⟩⟩
theorem gB {n : Nat} {l : List (Int × Int)} (hn : n ≤ 64) (hok : l.any (outB n) = false) : acyI n l = !circleB n l := by
 unfold acyI badB
 rw [hok, Int.toNat_natCast, acy_circle hn hok, decide_eq_false (by omega), decide_eq_false (by omega)]
 rfl
theorem pcoh_len {x : Ex} (hx : x.rel) (h : x.evs.length ≤ 32) : (pcohL x).length ≤ 4096 := by
 have hs : x.evs.length * x.evs.length ≤ 1024 := Nat.mul_le_mul h h
 have h1 : (refPairs x.evs.length (isPo x)).length ≤ _ := wJ x.evs.length (isPo x) x.evs.length
 have h2 : (refPairs x.evs.length (isRf x)).length ≤ _ := wJ x.evs.length (isRf x) x.evs.length
 have h3 : (refPairs x.evs.length (isCoB x)).length ≤ _ := wJ x.evs.length (isCoB x) x.evs.length
 have h4 : (refPairs x.evs.length (isFrB x)).length ≤ _ := wJ x.evs.length (isFrB x) x.evs.length
 have h5 := List.length_filter_le (cohG x) (refPairs x.evs.length (isPo x))
 unfold pcohL
 rw [gK hx, gI hx, bL hx.check]
 simp only [List.length_append]
 omega
set_option maxHeartbeats 4000000 in
theorem coherent_p (x : Ex) (hx : x.rel) (hN : x.evs.length ≤ 32) : Pure E.P 37 [jdOV x (rfF x) (coF x) (frF x)] (.bool (!circleB x.evs.length (rcohL x))) := by
 have hA : Pure E.P 59 [.int .i64 x.evs.length, .d (pairsTV (pcohL x))] (.bool (!circleB x.evs.length (rcohL x))) := by
  have hok : (pcohL x).any (outB x.evs.length) = false := (any_congr (mO hx) _).trans (jP x)
  have := kM x.evs.length (pcohL x) (pcoh_len hx hN)
  rwa [gB hx.len hok, circleB_congr (mO hx)] at this
 have f1 : Frozen 1 := ⟨trivial⟩
 have f5 : Frozen 5 := ⟨trivial⟩
 have f6 : Frozen 6 := ⟨trivial⟩
 have f7 : Frozen 7 := ⟨trivial⟩
 have f10 : Frozen 10 := ⟨trivial⟩
 have hpo := po_s x hx.fit
 unfold poF at hpo
 rw [if_pos hx.check] at hpo
 obtain ⟨l1, l2, l3, l4⟩ := lH hx
 unfold pcohL at hA
 generalize hL : refPairs x.evs.length (isPo x) = L at hpo hA
 have hln : L.length ≤ 1024 := by
  rw [← hL]
  exact Nat.le_trans (wJ x.evs.length (isPo x) x.evs.length) (Nat.mul_le_mul hN hN)
 refine fnA Tryz.func37 Tryz.ntmps37 ?_
 refine uB (aoR fun _ => ?_)
 refine q34 ?_; refine q12 (uC (uA (uB (aoR fun _ => ?_))))
 refine q51 (uC (uA ?_))
 iterate 2 refine uB ?_
 refine aoR fun _ => ?_; refine q32 ?_; refine q33 ?_
 apply lL; assumption; exact rfl; exact .fn _ _ _; exact rfl; exact hpo; exact xG _; exact rfl
 refine q13 ?_; refine q11 (uC (uA (uF ?_))); rotate_left
 rename_i v3 _
 have hmem : ∀ k, k < L.length → ∃ a b : Nat, a < x.evs.length ∧ b < x.evs.length ∧ (L.getD k default).1 = (a : Int) ∧ (L.getD k default).2 = (b : Int) := fun k hk' => by
  have : L.getD k default ∈ L := by rw [List.getD_eq_getElem?_getD, List.getElem?_eq_getElem hk']; exact List.getElem_mem hk'
  rw [← hL] at this
  obtain ⟨a, b, g1, g2, _, g3⟩ := vN.1 this
  rw [hL] at g3
  exact ⟨a, b, g1, g2, by rw [g3], by rw [g3]⟩
 refine uZ (X := Nat × Stamp × List (Int × Int)) (fun p => tmL [(1, .d (.pt (jdRow x (rfF x) (coF x) (frF x)) 0)), (3, .os 3 p.2.1 2 p.2.2.length), (10, .d (pairsTV L)), (11, .int .i64 L.length), (12, .int .i64 p.1)]) (fun p => stL [(3, (p.2.1, ⟨2, p.2.2.map pairO'⟩))])
  (fun p => p.1 ≤ L.length ∧ p.2.2 = (L.take p.1).filter (cohG x)) (fun p => L.length - p.1) (0, (v3, 0), []) ⟨Nat.zero_le _, by simp⟩ (by repeat' (first | exact vP _ | exact vM _ | refine uL rfl ?_ | refine vF rfl ?_ | (refine uV rfl ?_ ?_; (simp)) | (refine uN rfl ?_ ?_; (simp)) | (refine vA rfl ?_ ?_; (simp)))) leP ?_
 rintro ⟨k, τ, l⟩ ⟨hk', hl⟩
 dsimp only at hk' hl ⊢
 have hlen : l.length ≤ 1024 := by
  rw [hl]
  have h5 := List.length_filter_le (cohG x) (L.take k)
  have h6 : (L.take k).length ≤ L.length := by simp; omega
  omega
 by_cases hlt : k < L.length
 ·obtain ⟨a, b, ha, hb, e1, e2⟩ := hmem k hlt
  have b1 : 0 ≤ (L.getD (k : Int).toNat default).1 ∧ (L.getD (k : Int).toNat default).1 < x.evs.length := by rw [Int.toNat_natCast]; omega
  have b2 : 0 ≤ (L.getD (k : Int).toNat default).2 ∧ (L.getD (k : Int).toNat default).2 < x.evs.length := by rw [Int.toNat_natCast]; omega
  have htk : L.take (k + 1) = L.take k ++ [L.getD k default] := wU L default k hlt
  have e1' : (L.getD ((k : Int)).toNat default).1 = (a : Int) := e1
  have e2' : (L.getD ((k : Int)).toNat default).2 = (b : Int) := e2
  refine uB (aoR fun _ => ?_)
  refine q37 (uC (uA (uB ?_))); refine cnd ?_ ?_
  refine uI fun _ => ?_; try (exfalso; omega)
  refine uG (uA (uB (uF (uB (aoR fun _ => ?_)))))
  refine q17 ?_; refine q33 ?_
  apply vQ; exact rfl
  refine q43 (uC (uA (uB ?_)))
  refine vE (E := E) ?_ (fun _ => ?_); exact rfl
  iterate 2 refine q52 ?_
  refine q50 ?_; refine q52 ?_; refine q50 ?_; refine q30 ?_
  apply vT; exact rfl; exact rfl; exact rfl; exact Nat.le_of_ble_eq_true rfl
  iterate 2 refine q52 ?_
  refine q50 ?_; refine q52 ?_; refine q50 ?_; refine q30 ?_
  apply vT; exact rfl; exact rfl; exact rfl; exact Nat.le_of_ble_eq_true rfl
  iterate 2 (apply eP; exact rfl)
  iterate 2 (apply zC; exact rfl; exact rfl; exact rfl; exact rfl; exact rfl; exact rfl; (first | exact rfl | exact uW (by omega) (0 : Int) | exact uW (by omega) default | exact wR (by omega) (by omega) (0 : Int) | assumption); exact Nat.le_of_ble_eq_true rfl)
  refine vV ?_ ?_; (first | ((try dsimp only [wkeys]); decide +kernel) | exact rfl)
  refine uA (uB (aoR fun _ => ?_))
  refine q28 ?_; refine q16 ?_; refine q44 ?_; refine q11 ?_
  apply spT; exact rfl
  intro hc_; refine q2
  apply spT; exact rfl
  intro hc_; refine q3
  apply spT; exact rfl
  intro hc_; refine q26; refine q4 ?_; refine q11 ?_
  apply spT; exact rfl
  intro hc_; refine q2
  apply spT; exact rfl
  intro hc_; refine q3
  apply spT; exact rfl
  intro hc_; refine q2
  apply spT; exact rfl
  intro hc_; refine q3
  apply spT; exact rfl
  intro hc_; refine q7; refine q4 (uC ?_); refine uA ?_
  refine cnd ?_ ?_
  iterate 2 refine xQ ?_
  iterate 2 (refine wX (fun _ => ?_); (try (exfalso; omega)))
  refine uI fun _ => ?_; try (exfalso; omega)
  refine aoR fun _ => ?_; refine q11 ?_; refine q33 ?_
  apply wC; exact rfl; exact rfl; exact rfl; decide; decide; decide; exact rfl; exact rfl
  refine q19 ?_
  apply xF; exact rfl; exact rfl
  refine uC ?_; refine vI ?_; refine uA (aoR fun _ => ?_)
  refine q36 ?_; refine q11 (uC (uA ?_)); rotate_left
  refine xE (fun hc_ => ?_); (try simp only [nrm] at hc_)
  refine uG ?_; refine vI ?_; refine uA (aoR fun _ => ?_)
  refine q36 ?_; refine q11 (uC (uA ?_)); rotate_left
  refine uJ fun _ => ?_; try (exfalso; omega)
  ·rename_i g1 g2 g3 v10 _
   rw [e1', Int.toNat_natCast] at g1 g3
   rw [e2', Int.toNat_natCast] at g2 g3
   have hg2 : cohG x (L.getD k default) = true := by
    unfold cohG
    rw [e1, e2, Int.toNat_natCast, Int.toNat_natCast]
    rw [decide_eq_false g1, decide_eq_false g2, decide_eq_true g3]; rfl
   exact vJ (k + 1, (v10, 4), l ++ [L.getD k default]) ⟨by dsimp only; omega, by dsimp only; rw [hl, htk, List.filter_append, List.filter_cons, if_pos hg2, List.filter_nil]⟩ (by dsimp only; omega) (by repeat' (first | exact vP _ | exact vM _ | refine uL rfl ?_ | refine vF rfl ?_ | (refine uV rfl ?_ ?_; (simp <;> rfl)) | (refine uN rfl ?_ ?_; (simp <;> rfl)) | (refine vA rfl ?_ ?_; (simp <;> rfl)))) (by repeat' (first | exact vP _ | exact vM _ | refine uL rfl ?_ | refine vF rfl ?_ | (refine uV rfl ?_ ?_; (simp <;> rfl)) | (refine uN rfl ?_ ?_; (simp <;> rfl)) | (refine vA rfl ?_ ?_; (simp <;> rfl))))
  ·rw [e1', e2', Int.toNat_natCast, Int.toNat_natCast] at hc_
   have hg2 : cohG x (L.getD k default) = false := by
    unfold cohG
    rw [e1, e2, Int.toNat_natCast, Int.toNat_natCast]
    rcases hc_ with (h9 | h9) | h9
    ·rw [decide_eq_true h9]; simp only [Bool.not_true, Bool.and_false, Bool.false_and]
    ·rw [decide_eq_true h9]; simp only [Bool.not_true, Bool.and_false, Bool.false_and]
    ·rw [decide_eq_false h9]; simp only [Bool.and_false]
   exact vJ (k + 1, τ, l) ⟨by dsimp only; omega, by dsimp only; rw [hl, htk, List.filter_append, List.filter_cons, if_neg (by rw [hg2]; decide), List.filter_nil, List.append_nil]⟩ (by dsimp only; omega) leP leP
 ·have hkl : k = L.length := by omega
  have hL' : l = L.filter (cohG x) := by rw [hl, hkl, List.take_length]
  subst hL'
  have f3 : Frozen 3 := ⟨trivial⟩
  have f61 : Frozen 61 := ⟨trivial⟩
  have f62 : Frozen 62 := ⟨trivial⟩
  have hfz := xG
  have hC : Own E.P 60 [.d (.sl 1 [catRow (L.filter (cohG x)), catRow (rfF x), catRow (coF x), catRow (frF x)])] 2 ((L.filter (cohG x) ++ (rfF x ++ (coF x ++ frF x))).map pairO') := by
   have h5 := List.length_filter_le (cohG x) L
   have := concat_o [L.filter (cohG x), rfF x, coF x, frF x] (by simp only [List.flatten_cons, List.flatten_nil, List.length_append, List.length_nil]; omega) (by simp)
   simpa using this
  refine uB (aoR fun _ => ?_)
  refine q37 (uC (uA (uB ?_))); refine cnd ?_ ?_
  refine uI fun _ => ?_; try (exfalso; omega)
  refine uJ fun _ => ?_; try (exfalso; omega)
  refine uO ?_
  iterate 2 refine vH ?_
  refine vR ?_; refine uA (uB ?_)
  refine vE (E := E) ?_ (fun _ => ?_); exact rfl
  iterate 2 refine q52 ?_
  refine q50 ?_; refine q59 ?_
  (apply D_mvfz; assumption; exact rfl; exact rfl; (repeat (first | exact FzR.nil | exact FzR.ints _ | exact FzR.d _ | exact hfz _ | exact FzC.map _ | exact FzC.nil | apply FzR.take | apply FzR.drop | apply FzR.app | apply FzR.cons | apply FzC.cons | assumption)); (first | rfl | (first | omega | (simp only [List.length_append, List.length_map, List.length_take, List.length_drop, List.length_cons, List.length_nil, List.length_replicate, uY] <;> omega))))
  refine q52 ?_; refine q50 ?_; refine q52 ?_; refine q50 ?_; refine q52 ?_; refine q50 ?_
  (apply D_buildSliceF; assumption; exact rfl; exact rfl; exact rfl; decide; decide; decide; exact rfl; exact rfl; (repeat (first | exact FzR.nil | exact FzR.ints _ | exact FzR.d _ | exact hfz _ | exact FzC.map _ | exact FzC.nil | apply FzR.take | apply FzR.drop | apply FzR.app | apply FzR.cons | apply FzC.cons | assumption)); (first | rfl | (first | omega | (simp only [List.length_append, List.length_map, List.length_take, List.length_drop, List.length_cons, List.length_nil, List.length_replicate, uY] <;> omega))))
  apply lN; assumption; exact rfl; exact .fn _ _ _; exact rfl; exact hC; exact xG _; exact rfl
  apply wS; exact rfl; exact .fn _ _ _; exact rfl; exact hA
  apply wF; exact rfl
  refine vV ?_ ?_; (first | ((try dsimp only [wkeys]); decide +kernel) | exact rfl)
  refine uA ?_; refine uH ?_; rotate_left
  exact vB rfl rfl
set_option maxHeartbeats 4000000 in
theorem ordered_p (x : Ex) (hx : x.rel) : Pure E.P 38 [jdOV x (rfF x) (coF x) (frF x)] (.bool (!circleB x.evs.length (gloL x))) := by
 have hA : Pure E.P 59 [.int .i64 x.evs.length, .d (pairsTV (gloL x))] (.bool (!circleB x.evs.length (gloL x))) := by
  have := kM x.evs.length (gloL x) (mX hx)
  rwa [gB hx.len (mW x)] at this
 have hR := arrows_p x hx
 have f1 : Frozen 1 := ⟨trivial⟩
 refine fnA Tryz.func38 Tryz.ntmps38 ?_
 refine uB (aoR fun _ => ?_)
 refine q34 ?_; refine q12 (uC (uA (uB ?_)))
 refine vE (E := E) ?_ (fun _ => ?_); exact rfl
 iterate 2 refine q52 ?_
 refine q50 ?_; refine q59 ?_
 apply vT; exact rfl; exact rfl; exact rfl; exact Nat.le_of_ble_eq_true rfl
 apply wS; exact rfl; exact .fn _ _ _; exact rfl; exact hR
 apply wS; exact rfl; exact .fn _ _ _; exact rfl; exact hA
 apply wF; exact rfl
 refine vV ?_ ?_; (first | ((try dsimp only [wkeys]); decide +kernel) | exact rfl)
 refine uA ?_; refine uH ?_; rotate_left
 exact vB rfl rfl
def judB (x : Ex) : Bool × Bool × Bool := (!circleB x.evs.length (rcohL x), !circleB x.evs.length (gloL x), ratB x)
def judT (x : Ex) : (Bool × Bool × Bool) × Int := if checkI x = 0 then (judB x, 0) else ((false, false, false), checkI x)
theorem nH {t u T : Nat} {te : TE} {k : Nat} {τ : Stamp} {row : List OV} {rest : List (List OV)} {s : OV} {tm : Tm} {σ : Store} {R : OV → Store → Prop} (hT : E.tab T = some te) (ha : te.k.isAgg = true) (hs : te.size = row.length) (ht : tm t = some (.lo k τ te.size 0 0)) (hk : σ k = some (τ, ⟨te.size, row :: rest⟩)) (hu : tm u = some s) (hR : R (.tu [.ag row, s]) σ) : DoneN E [.cell t T, .tmp u] R .ret tm σ :=
 ⟨_, ⟨_, _, rfl, ⟨_, _, _, _, _, hT, ha, hs, ht, hk, rfl⟩, _, _, rfl, hu, rfl⟩, hR⟩
section
variable {E : Env} {v j : Nat} {ops : Array Oper} {KD : List Foot → Tm → Store → Prop} {acc : List Foot} {rest : List Oper} {tm : Tm} {σ : Store} {ty : TypeId} {pos : String} {af : Array Edge}
theorem oE {dst : Option Tmp} {x : Operand} {k : Nat} {τ : Stamp} {a i o : Nat} (hx : ev tm x = some (.lo k τ a i o)) (hcont : DO E.P v ops KD (j + 1) rest (tm.putO dst (.lo k τ a i o)) (σ.apply []) (Foot.mk [] (wkeys []) :: acc)) : DO E.P v ops KD j (⟨dst, .nilCheck x, ty, pos, af, none⟩ :: rest) tm σ acc := D_nilCheck rfl hx hcont
end
def vrow (b : Bool × Bool × Bool) (k : Nat) : List OV := [.bool (decide (0 < k) && b.1), .bool (decide (1 < k) && b.2.1), .bool (decide (2 < k) && b.2.2)]
set_option maxHeartbeats 4000000 in
theorem pH (x : Ex) (hx : x.fit) (hN : x.evs.length ≤ 32) : Pure E.P 17 [exOV x] (.tu [judOV (judT x).1, .int .i64 (judT x).2]) := by
 have hk := zB _ hx.1 hx.2
 have f1 : Frozen 1 := ⟨trivial⟩
 have f5 : Frozen 5 := ⟨trivial⟩
 refine FnW.toR ?_
 refine xI (vs := [.cell 2 34, .tmp 3]) Tryz.func17 (by decide) rfl Tryz.ntmps17 (Nat.le_of_ble_eq_true rfl) rfl ?_
 by_cases hc : checkI x = 0
 rotate_left
 ·refine uB (aoR fun _ => ?_)
  refine q34 ?_
  apply vQ; exact rfl
  refine q12 (uC (uA ?_))
  iterate 2 refine uB ?_
  refine aoR fun _ => ?_; refine q33 ?_
  apply uP; exact rfl; exact .fn _ _ _; exact rfl; exact hk
  refine q12 (uC (uA (uB (aoR fun _ => ?_))))
  refine q11 ?_; refine q44 (uC (uA ?_)); refine cnd ?_ ?_
  refine wX (fun _ => ?_); (try (exfalso; omega))
  refine uB (aoR fun _ => ?_)
  refine q54 ?_; refine q11 ?_; refine q15 ?_; refine q12 (uC (uA ?_)); refine uH ?_; refine uR ?_; rotate_left
  refine wT (fun _ => ?_); (try (exfalso; omega))
  refine nH rfl rfl rfl rfl rfl rfl ?_
  unfold judT
  rw [if_neg hc]
  rfl
 rw [hc] at hk
 have hr : x.rel := ⟨hx, hc⟩
 have hof := of_p x hx
 have hB : judT x = (judB x, 0) := by unfold judT; rw [if_pos hc]
 have h1 : Pure E.P 37 [jdOV x (rfF x) (coF x) (frF x)] (.bool (judB x).1) := coherent_p x hr hN
 have h2 : Pure E.P 38 [jdOV x (rfF x) (coF x) (frF x)] (.bool (judB x).2.1) := ordered_p x hr
 have h3 : Pure E.P 39 [jdOV x (rfF x) (coF x) (frF x)] (.bool (judB x).2.2) := by
  have := atomic_p x hr (rfF x) (coF x) (frF x)
  rwa [atom_eq hr] at this
 rw [hB]
 generalize judB x = B at h1 h2 h3
 refine uB (aoR fun _ => ?_)
 refine q34 ?_
 apply vQ; exact rfl
 refine q12 (uC (uA ?_))
 iterate 2 refine uB ?_
 refine aoR fun _ => ?_; refine q33 ?_
 apply uP; exact rfl; exact .fn _ _ _; exact rfl; exact hk
 refine q12 (uC (uA (uB (aoR fun _ => ?_))))
 refine q11 ?_; refine q44 (uC (uA ?_)); refine cnd ?_ ?_
 refine wX (fun _ => ?_); (try (exfalso; omega))
 refine wT (fun _ => ?_); (try (exfalso; omega))
 refine uG (uA (uB (aoR fun _ => ?_)))
 refine q33 ?_
 apply uP; exact rfl; exact .fn _ _ _; exact rfl; exact hof
 apply vQ; exact rfl
 refine q43 (uC (uA (uB (aoR fun _ => ?_))))
 refine q54 ?_
 apply vQ; exact rfl
 refine q15 (uC (uA ?_))
 iterate 2 refine uB ?_
 refine aoR fun _ => ?_; refine q28 ?_; refine q33 ?_
 apply wE; exact rfl; exact rfl
 refine q54 ?_; refine q28 ?_; refine q33 ?_
 apply wE; exact rfl; exact rfl
 refine q54 ?_; refine q28 ?_; refine q33 ?_
 apply wE; exact rfl; exact rfl
 refine q54 ?_
 apply wC; exact rfl; exact rfl; exact rfl; decide; decide; decide; exact rfl; exact rfl
 refine q13 ?_; refine q11 (uC (uA (uF ?_))); rotate_left
 rename_i v2 _ _ _ _ v6 v30
 refine uZ (X := Nat) (fun k => tmL [(2, .lo 2 (v2, 1) 3 0 0), (6, .lo 6 (v6, 1) 3 0 0), (30, .os 30 (v30, 12) 2 3), (31, .int .i64 3), (32, .int .i64 k)])
  (fun k => stL [(2, ((v2, 1), ⟨3, [[.bool false, .bool false, .bool false]]⟩)), (6, ((v6, 1), ⟨3, [vrow B k]⟩)), (30, ((v30, 12), ⟨2, [[.lo 6 (v6, 1) 3 0 0, .fn 37 [jdOV x (rfF x) (coF x) (frF x)] []], [.lo 6 (v6, 1) 3 0 1, .fn 38 [jdOV x (rfF x) (coF x) (frF x)] []], [.lo 6 (v6, 1) 3 0 2, .fn 39 [jdOV x (rfF x) (coF x) (frF x)] []]]⟩))])
  (fun k => k ≤ 3) (fun k => 3 - k) 0 (Nat.zero_le _) leP leP ?_
 intro k hk3
 by_cases h30 : k = 3
 ·subst h30
  refine uB (aoR fun _ => ?_)
  refine q37 (uC (uA (uB ?_))); refine cnd ?_ ?_
  refine uI fun _ => ?_; try (exfalso; omega)
  refine uJ fun _ => ?_; try (exfalso; omega)
  refine uO ?_
  iterate 2 refine vH ?_
  refine vR ?_; refine uA (uB (aoR fun _ => ?_))
  refine q14 ?_; refine q15 ?_; refine q12 (uC (uA ?_)); refine uH ?_; rotate_left
  refine nH rfl rfl rfl rfl rfl rfl ?_
  rfl
 have h012 : k = 0 ∨ k = 1 ∨ k = 2 := by omega
 rcases h012 with rfl | rfl | rfl
 ·refine uB (aoR fun _ => ?_)
  refine q37 (uC (uA (uB ?_))); refine cnd ?_ ?_
  refine uI fun _ => ?_; try (exfalso; omega)
  refine uG (uA (uB (uF (uB (aoR fun _ => ?_)))))
  apply zQ; exact rfl; exact rfl; exact rfl; exact rfl; exact rfl; exact rfl; omega
  refine q14 ?_
  apply vQ; exact rfl
  refine q15 (uC (uA ?_))
  refine vE (E := E) ?_ (fun _ => ?_); exact rfl
  refine q56 ?_
  apply wG; exact rfl; exact rfl; exact rfl; exact rfl; (first | exact rfl | exact uW (by omega) (0 : Int) | exact uW (by omega) default | exact hrow _ | assumption); exact rfl
  refine q56 ?_
  apply wG; exact rfl; exact rfl; exact rfl; exact rfl; (first | exact rfl | exact uW (by omega) (0 : Int) | exact uW (by omega) default | exact hrow _ | assumption); exact rfl
  apply wS; exact rfl; exact .fn _ _ _; exact rfl; exact h1
  apply oE; exact rfl
  apply zC; exact rfl; exact rfl; exact rfl; exact rfl; exact rfl; exact rfl; (first | exact rfl | exact uW (by omega) (0 : Int) | exact uW (by omega) default | exact wR (by omega) (by omega) (0 : Int) | assumption); exact Nat.le_of_ble_eq_true rfl
  refine vV ?_ ?_; (first | ((try dsimp only [wkeys]); decide +kernel) | exact rfl)
  refine vI ?_; refine uA (aoR fun _ => ?_)
  refine q36 ?_; refine q11 (uC (uA ?_)); rotate_left
  refine uJ fun _ => ?_; try (exfalso; omega)
  exact vJ 1 (by omega) (by omega) leP leP
 ·refine uB (aoR fun _ => ?_)
  refine q37 (uC (uA (uB ?_))); refine cnd ?_ ?_
  refine uI fun _ => ?_; try (exfalso; omega)
  refine uG (uA (uB (uF (uB (aoR fun _ => ?_)))))
  apply zQ; exact rfl; exact rfl; exact rfl; exact rfl; exact rfl; exact rfl; omega
  refine q14 ?_
  apply vQ; exact rfl
  refine q15 (uC (uA ?_))
  refine vE (E := E) ?_ (fun _ => ?_); exact rfl
  refine q56 ?_
  apply wG; exact rfl; exact rfl; exact rfl; exact rfl; (first | exact rfl | exact uW (by omega) (0 : Int) | exact uW (by omega) default | exact hrow _ | assumption); exact rfl
  refine q56 ?_
  apply wG; exact rfl; exact rfl; exact rfl; exact rfl; (first | exact rfl | exact uW (by omega) (0 : Int) | exact uW (by omega) default | exact hrow _ | assumption); exact rfl
  apply wS; exact rfl; exact .fn _ _ _; exact rfl; exact h2
  apply oE; exact rfl
  apply zC; exact rfl; exact rfl; exact rfl; exact rfl; exact rfl; exact rfl; (first | exact rfl | exact uW (by omega) (0 : Int) | exact uW (by omega) default | exact wR (by omega) (by omega) (0 : Int) | assumption); exact Nat.le_of_ble_eq_true rfl
  refine vV ?_ ?_; (first | ((try dsimp only [wkeys]); decide +kernel) | exact rfl)
  refine vI ?_; refine uA (aoR fun _ => ?_)
  refine q36 ?_; refine q11 (uC (uA ?_)); rotate_left
  refine uJ fun _ => ?_; try (exfalso; omega)
  exact vJ 2 (by omega) (by omega) leP leP
 ·refine uB (aoR fun _ => ?_)
  refine q37 (uC (uA (uB ?_))); refine cnd ?_ ?_
  refine uI fun _ => ?_; try (exfalso; omega)
  refine uG (uA (uB (uF (uB (aoR fun _ => ?_)))))
  apply zQ; exact rfl; exact rfl; exact rfl; exact rfl; exact rfl; exact rfl; omega
  refine q14 ?_
  apply vQ; exact rfl
  refine q15 (uC (uA ?_))
  refine vE (E := E) ?_ (fun _ => ?_); exact rfl
  refine q56 ?_
  apply wG; exact rfl; exact rfl; exact rfl; exact rfl; (first | exact rfl | exact uW (by omega) (0 : Int) | exact uW (by omega) default | exact hrow _ | assumption); exact rfl
  refine q56 ?_
  apply wG; exact rfl; exact rfl; exact rfl; exact rfl; (first | exact rfl | exact uW (by omega) (0 : Int) | exact uW (by omega) default | exact hrow _ | assumption); exact rfl
  apply wS; exact rfl; exact .fn _ _ _; exact rfl; exact h3
  apply oE; exact rfl
  apply zC; exact rfl; exact rfl; exact rfl; exact rfl; exact rfl; exact rfl; (first | exact rfl | exact uW (by omega) (0 : Int) | exact uW (by omega) default | exact wR (by omega) (by omega) (0 : Int) | assumption); exact Nat.le_of_ble_eq_true rfl
  refine vV ?_ ?_; (first | ((try dsimp only [wkeys]); decide +kernel) | exact rfl)
  refine vI ?_; refine uA (aoR fun _ => ?_)
  refine q36 ?_; refine q11 (uC (uA ?_)); rotate_left
  refine uJ fun _ => ?_; try (exfalso; omega)
  exact vJ 3 (by omega) (by omega) leP leP
def allowB (x : Ex) : Bool := (judB x).1 && (judB x).2.1 && (judB x).2.2
def allowT (x : Ex) : Bool × Int := if checkI x = 0 then (allowB x, 0) else (false, checkI x)
theorem allow_eq (x : Ex) : eqV (judT x).1 (true, true, true) = (allowT x).1 ∧ (judT x).2 = (allowT x).2 := by
 unfold judT allowT
 by_cases hc : checkI x = 0
 ·rw [if_pos hc, if_pos hc]
  refine ⟨?_, rfl⟩
  unfold eqV allowB
  generalize judB x = B
  obtain ⟨a, b, c⟩ := B
  cases a <;> cases b <;> cases c <;> rfl
 ·rw [if_neg hc, if_neg hc]
  exact ⟨rfl, rfl⟩
set_option maxHeartbeats 4000000 in
theorem fO (x : Ex) (hx : x.fit) (hN : x.evs.length ≤ 32) : Pure E.P 15 [exOV x] (.tu [.bool (allowT x).1, .int .i64 (allowT x).2]) := by
 have hJ := pH x hx hN
 obtain ⟨e1, e2⟩ := allow_eq x
 rw [← e1, ← e2]
 have f1 : Frozen 1 := ⟨trivial⟩
 refine FnW.toR ?_
 refine xI (vs := [.tmp 2, .tmp 3]) Tryz.func15 (by decide) rfl Tryz.ntmps15 (Nat.le_of_ble_eq_true rfl) rfl ?_
 refine uB (aoR fun _ => ?_)
 refine q34 ?_
 iterate 2 refine q12 ?_
 refine uC (uA (uB (aoR fun _ => ?_)))
 refine q33 ?_
 apply uP; exact rfl; exact .fn _ _ _; exact rfl; exact hJ
 refine q11 ?_
 iterate 2 (apply wQ; exact rfl; exact rfl)
 apply vQ; exact rfl
 refine q15 ?_; refine q12 (uC (uA (uB (aoR fun _ => ?_))))
 refine q14 ?_; refine q54 ?_
 apply qH (judT x).1 (true, true, true); exact rfl; exact rfl
 refine q11 ?_
 iterate 2 refine q12 ?_
 refine uC (uA ?_); refine uH ?_; rotate_left
 exact aZ rfl rfl rfl
def arrT (x : Ex) : List (Int × Int) × Int := if checkI x = 0 then (gloL x, 0) else ([], checkI x)
set_option maxRecDepth 100000
theorem dH (a : Int) (l : List Int) (k : Nat) (h : k < l.length) : addIn a (l.drop k) = if l.getD k 0 < a then l.getD k 0 :: addIn a (l.drop (k + 1)) else if l.getD k 0 = a then l.drop k else a :: l.drop k := by
 have e : l.drop k = l.getD k 0 :: l.drop (k + 1) := by
  rw [List.drop_eq_getElem_cons h, List.getD_eq_getElem?_getD, List.getElem?_eq_getElem h]; rfl
 rw [e, addIn]
theorem cB {α : Type} (l : List α) (d : α) (k : Nat) (h : k < l.length) : l.take (k + 1) = l.take k ++ [l.getD k d] := by
 rw [List.take_succ_eq_append_getElem h, List.getD_eq_getElem?_getD, List.getElem?_eq_getElem h]; rfl
theorem aW (es : List Ev) (i : Nat) (h : i < es.length) : addrsTo (es.take (i + 1)) = if (es.getD i default).kind = 4 then addrsTo (es.take i) else addIn (es.getD i default).addr (addrsTo (es.take i)) := by
 rw [cB es default i h, eH]
theorem addrsTo_take_len (es : List Ev) (i : Nat) : (addrsTo (es.take i)).length ≤ i := Nat.le_trans (yF _) (by simp; omega)
theorem aF (f : Int → List OV) (l : List Int) (k : Nat) (a : Int) : [] ++ ((l.map f).drop 0).take ((k : Int).toNat - 0) ++ [f a] ++ ((l.map f).drop (k : Int).toNat).take (l.length - (k : Int).toNat) = (l.take k ++ a :: l.drop k).map f := by
 simp [List.take_of_length_le]
set_option maxHeartbeats 4000000 in
theorem raddrs_p (x : Ex) (hx : x.evs.length ≤ 65536) :
  Own E.P 28 [exOV x] 1 ((addrsTo x.evs).map (cellO .u32)) := by
 refine fnA Tryz.func28 Tryz.ntmps28 ?_
 refine uB (aoR fun _ => ?_)
 refine q40 ?_; refine q51 (uC (uA (uB (aoR fun _ => ?_))))
 refine q51 (uC (uA ?_))
 iterate 2 refine uB ?_
 refine aoR fun _ => ?_; refine q12 (uC (uA (uF ?_)))
 rotate_left
 rename_i v1 v3 v4
 refine uZ (X := Nat × Stamp × List Int) (fun p => tmL [(1, .lo 1 (v1, 0) 3 0 0), (3, .os 3 p.2.1 1 p.2.2.length), (4, .int .i64 p.1)]) (fun p => stL [(1, ((v1, 0), ⟨3, [(exOV x).cells]⟩)), (3, (p.2.1, ⟨1, p.2.2.map (cellO .u32)⟩))])
  (fun p => p.1 ≤ x.evs.length ∧ p.2.2 = addrsTo (x.evs.take p.1)) (fun p => x.evs.length - p.1) (0, (v3, 0), []) ⟨Nat.zero_le _, rfl⟩ leP leP ?_
 rintro ⟨i, τ, l⟩ ⟨hi, hl⟩
 dsimp only at hi hl ⊢
 have hlen : l.length ≤ 65536 := by rw [hl]; exact Nat.le_trans (addrsTo_take_len _ _) (by omega)
 iterate 2 refine uB ?_
 refine aoR fun _ => ?_; refine q11 ?_; refine q28 ?_; refine q16 ?_; refine q13 ?_; refine q37 (uC (uA ?_))
 refine cnd ?_ ?_
 refine uI fun _ => ?_; try (exfalso; omega)
 refine uG (uA (uB (uF ?_)))
 iterate 2 refine uB ?_
 refine aoR fun _ => ?_; refine q28 ?_; refine q16 ?_; refine q11 ?_; refine q17 ?_; refine q32 ?_; refine q23 ?_; refine q46 (uC (uA ?_))
 refine cnd ?_ ?_
 refine uI fun _ => ?_; try (exfalso; omega)
 refine uO ?_; refine vH ?_; refine vR ?_; refine uA (aoR fun _ => ?_)
 refine q11 ?_; refine q36 ?_; refine q12 (uC (uA ?_)); rotate_left
 refine uJ fun _ => ?_; try (exfalso; omega)
 refine uG (uA (uB (aoR fun _ => ?_)))
 refine q28 ?_; refine q16 ?_; refine q11 ?_; refine q17 ?_; refine q32 ?_; refine q23 ?_; refine q12 (uC (uA (uB (aoR fun _ => ?_))))
 refine q12 (uC (uA (uB (uF ?_)))); rotate_left
 refine uJ fun _ => ?_; try (exfalso; omega)
 refine uO ?_
 iterate 2 refine vH ?_
 refine vR ?_; refine uA (uB (aoR fun _ => ?_))
 refine q11 ?_
 apply xF; exact rfl; exact rfl
 refine uC (uA ?_); refine uH ?_; rotate_left
 ·refine vJ (i + 1, τ, l) ⟨by dsimp only; omega, ?_⟩ (by dsimp only; omega) leP leP
  have hk := aW x.evs i (by omega)
  rename_i h1 _
  rw [Int.toNat_natCast] at h1
  rw [hk, if_pos h1]; exact hl
 ·rename_i h1 w1 w2
  rw [Int.toNat_natCast] at h1
  refine uZ (X := Nat) (fun k => tmL [(1, .lo 1 (v1, 0) 3 0 0), (3, .os 3 τ 1 l.length), (4, .int .i64 i), (5, .int .u32 (x.evs.getD i default).addr), (6, .int .i64 k)]) (fun _ => stL [(1, ((v1, 0), ⟨3, [(exOV x).cells]⟩)), (3, (τ, ⟨1, l.map (cellO .u32)⟩))])
   (fun k => k ≤ l.length ∧ addIn (x.evs.getD i default).addr l = l.take k ++ addIn (x.evs.getD i default).addr (l.drop k)) (fun k => l.length - k) 0 ⟨Nat.zero_le _, rfl⟩ leP leP ?_
  intro k hk
  obtain ⟨hk, ht⟩ := hk
  iterate 2 refine uB ?_
  refine aoR fun _ => ?_
  iterate 2 refine q11 ?_
  refine q13 ?_; refine q37 ?_; refine q11 ?_
  apply spT; exact rfl
  intro hc_; refine q1
  apply spT; exact rfl
  intro hc_; refine q1
  apply spT; exact rfl
  intro hc_
  have hp_ := hc_; try simp only [nrm] at hp_
  refine q45
  apply spT; exact rfl
  intro hc_
  have hp_ := hc_; try simp only [nrm] at hp_
  refine q49
  apply spT; exact rfl
  intro hc_; refine q1
  apply spT; exact rfl
  intro hc_; refine q22; refine q4 (uC ?_); refine uA ?_
  refine cnd ?_ ?_; refine xQ ?_
  iterate 2 refine uI fun _ => ?_; try (exfalso; omega)
  refine uG (uA (uF (aoR fun _ => ?_)))
  refine q11 ?_; refine q36 ?_; refine q12 (uC ?_); refine vI ?_; refine uA ?_; rotate_left
  refine xE (fun hc_ => ?_); (try simp only [nrm] at hc_)
  refine uO ?_
  iterate 2 refine vH ?_
  refine vR ?_; refine uA ?_
  iterate 2 refine uB ?_
  refine aoR fun _ => ?_
  iterate 2 refine q11 ?_
  refine q13 ?_; refine q37 ?_; refine q11 ?_
  apply spT; exact rfl
  intro hc_; refine q1
  apply spT; exact rfl
  intro hc_; refine q1
  apply spT; exact rfl
  intro hc_
  have hp_ := hc_; try simp only [nrm] at hp_
  refine q45
  apply spT; exact rfl
  intro hc_
  have hp_ := hc_; try simp only [nrm] at hp_
  refine q49
  apply spT; exact rfl
  intro hc_; refine q1
  apply spT; exact rfl
  intro hc_; refine q7; refine q4 (uC ?_); refine uA ?_
  refine cnd ?_ ?_; refine xQ ?_
  iterate 2 refine uI fun _ => ?_; try (exfalso; omega)
  refine uO ?_; refine vH ?_; refine vR ?_; refine uA (aoR fun _ => ?_)
  refine q11 ?_; refine q36 ?_; refine q12 (uC (uA ?_)); rotate_left
  refine xE (fun hc_ => ?_); (try simp only [nrm] at hc_)
  refine uG (uA (uB (aoR fun _ => ?_)))
  iterate 2 refine q11 ?_
  (apply jA; exact rfl; exact rfl; exact rfl; exact rfl; exact rfl; (first | exact rfl | exact ⟨_, _, rfl, by omega, rfl⟩); (first | exact rfl | exact ⟨_, _, rfl, by omega, rfl⟩); omega; omega)
  refine q19 ?_; refine q11 ?_
  apply wC; exact rfl; exact rfl; exact rfl; decide; decide; decide; exact rfl; exact rfl
  refine q19 ?_
  apply xF; exact rfl; exact rfl
  refine uC (uA (aoR fun _ => ?_))
  iterate 3 refine q11 ?_
  (apply jA; exact rfl; exact rfl; exact rfl; exact rfl; exact rfl; (first | exact rfl | exact ⟨_, _, rfl, by omega, rfl⟩); (first | exact rfl | exact ⟨_, _, rfl, by omega, rfl⟩); omega; omega)
  refine q19 ?_
  apply xF; exact rfl; exact rfl
  refine uC ?_; refine vI ?_; refine uA (aoR fun _ => ?_)
  refine q11 ?_; refine q36 ?_; refine q12 (uC (uA ?_)); rotate_left
  ·rename_i h2 h3 _
   rw [Int.toNat_natCast] at h3
   refine vJ (k + 1) ⟨by omega, ?_⟩ (by omega) leP leP
   rw [ht, dH _ l k (by omega), if_pos h3, cB l 0 k (by omega)]
   simp
  ·rename_i _ h2 h3 _
   have h0 := hc_
   simp only [Int.toNat_natCast] at h3 h0
   refine vJ (i + 1, τ, l) ⟨by dsimp only; omega, ?_⟩ (by dsimp only; omega) leP leP
   have hk' := aW x.evs i (by omega)
   rw [if_neg h1, ← hl, ht, dH _ l k (by omega), if_neg (by omega), if_pos h3, List.take_append_drop] at hk'
   exact hk'.symm
  ·rename_i h0 _ w3 w4 w5
   have h3 := hc_
   simp only [Int.toNat_natCast] at h3 h0
   have hD : addIn (x.evs.getD i default).addr l = l.take k ++ (x.evs.getD i default).addr :: l.drop k := by
    rw [ht]
    by_cases hkl : k = l.length
    ·subst hkl; simp [addIn]
    ·rw [dH _ l k (by omega), if_neg (by omega), if_neg (by omega)]
   have hk' := aW x.evs i (by omega)
   rw [if_neg h1, ← hl] at hk'
   refine vJ (i + 1, (w4, 5), addIn (x.evs.getD i default).addr l) ⟨by dsimp only; omega, hk'.symm⟩ (by dsimp only; omega) (by repeat' (first | exact vP _ | exact vM _ | refine uL rfl ?_ | refine vF rfl ?_ | (refine uV rfl ?_ ?_; (first | (dsimp only; rw [hD]; (first | omega | (simp only [List.length_append, List.length_map, List.length_take, List.length_drop, List.length_cons, List.length_nil, List.length_replicate, uY] <;> omega))) | (dsimp only; rw [hD]; exact aF _ l k _))) | (refine uN rfl ?_ ?_; (first | (dsimp only; rw [hD]; (first | omega | (simp only [List.length_append, List.length_map, List.length_take, List.length_drop, List.length_cons, List.length_nil, List.length_replicate, uY] <;> omega))) | (dsimp only; rw [hD]; exact aF _ l k _))) | (refine vA rfl ?_ ?_; (first | (dsimp only; rw [hD]; (first | omega | (simp only [List.length_append, List.length_map, List.length_take, List.length_drop, List.length_cons, List.length_nil, List.length_replicate, uY] <;> omega))) | (dsimp only; rw [hD]; exact aF _ l k _))))) (by repeat' (first | exact vP _ | exact vM _ | refine uL rfl ?_ | refine vF rfl ?_ | (refine uV rfl ?_ ?_; (first | (dsimp only; rw [hD]; (first | omega | (simp only [List.length_append, List.length_map, List.length_take, List.length_drop, List.length_cons, List.length_nil, List.length_replicate, uY] <;> omega))) | (dsimp only; rw [hD]; exact aF _ l k _))) | (refine uN rfl ?_ ?_; (first | (dsimp only; rw [hD]; (first | omega | (simp only [List.length_append, List.length_map, List.length_take, List.length_drop, List.length_cons, List.length_nil, List.length_replicate, uY] <;> omega))) | (dsimp only; rw [hD]; exact aF _ l k _))) | (refine vA rfl ?_ ?_; (first | (dsimp only; rw [hD]; (first | omega | (simp only [List.length_append, List.length_map, List.length_take, List.length_drop, List.length_cons, List.length_nil, List.length_replicate, uY] <;> omega))) | (dsimp only; rw [hD]; exact aF _ l k _)))))
 ·have e : i = x.evs.length := by omega
  rw [e, List.take_length] at hl
  refine wW rfl rfl ?_ ?_
  ·rw [hl]
  ·simp
set_option maxRecDepth 100000
def Ev.lens (e : Ev) : Nat := e.addrs.length + e.datas.length + e.ctrls.length
def sumE (es : List Ev) (k : Nat) : Nat := ((es.take k).map Ev.lens).sum
def sumR (rows : List (Sl × List Int)) (k : Nat) : Nat := ((rows.take k).map fun r => r.2.length).sum
def wideB8 (x : Ex) : Bool := decide (20 < x.evs.length) || decide (200 < x.from_.length) || decide (200 < x.order.length) || decide (400 < x.from_.length + sumR x.order x.order.length) || decide (400 < x.from_.length + sumR x.order x.order.length + sumE x.evs x.evs.length)
theorem jG (es : List Ev) (k : Nat) (h : k < es.length) : sumE es (k + 1) = sumE es k + (es.getD k default).lens := by
 unfold sumE; rw [cB es default k h]; simp
theorem eQ (rows : List (Sl × List Int)) (k : Nat) (h : k < rows.length) : sumR rows (k + 1) = sumR rows k + (rows.getD k default).2.length := by
 unfold sumR; rw [cB rows default k h]; simp
theorem fP (l : List Nat) (k : Nat) : (l.take k).sum ≤ l.sum := by
 have h := congrArg List.sum (List.take_append_drop k l)
 rw [List.sum_append] at h
 omega
theorem sumE_le (es : List Ev) (k : Nat) : sumE es k ≤ sumE es es.length := by
 unfold sumE
 rw [List.take_length, List.map_take]; exact fP _ _
theorem oI (rows : List (Sl × List Int)) (k : Nat) : sumR rows k ≤ sumR rows rows.length := by
 unfold sumR
 rw [List.take_length, List.map_take]; exact fP _ _
theorem wide8_true1 {x : Ex} (h : 20 < x.evs.length ∨ 200 < x.from_.length ∨ 200 < x.order.length) : true = wideB8 x := by
 unfold wideB8
 rcases h with h | h | h <;> simp [h]
theorem wide8_true2 {x : Ex} {k : Nat} (h : 400 < x.from_.length + sumR x.order k) : true = wideB8 x := by
 have := oI x.order k
 unfold wideB8
 have h : 400 < x.from_.length + sumR x.order x.order.length := by omega
 simp [h]
theorem wide8_true3 {x : Ex} {k : Nat} (h : 400 < x.from_.length + sumR x.order x.order.length + sumE x.evs k) : true = wideB8 x := by
 have := sumE_le x.evs k
 unfold wideB8
 have h : 400 < x.from_.length + sumR x.order x.order.length + sumE x.evs x.evs.length := by omega
 simp [h]
theorem Ex.ok.ev {x : Ex} (h : x.ok) (i : Nat) : (x.evs.getD i default).addrs.length ≤ 1152921504606846976 ∧ (x.evs.getD i default).datas.length ≤ 1152921504606846976 ∧ (x.evs.getD i default).ctrls.length ≤ 1152921504606846976 := by
 rcases Nat.lt_or_ge i x.evs.length with hh | hh
 ·rw [List.getD_eq_getElem?_getD, List.getElem?_eq_getElem hh]
  have := h.2.1 _ (List.getElem_mem hh)
  exact ⟨this.2.1, this.2.2.1, this.2.2.2.1⟩
 ·rw [List.getD_eq_getElem?_getD, List.getElem?_eq_none hh]
  decide
theorem Ex.ok.row {x : Ex} (h : x.ok) (i : Nat) : (x.order.getD i default).2.length ≤ 1152921504606846976 := by
 rcases Nat.lt_or_ge i x.order.length with hh | hh
 ·rw [List.getD_eq_getElem?_getD, List.getElem?_eq_getElem hh]
  exact h.2.2.2.2 _ (List.getElem_mem hh)
 ·rw [List.getD_eq_getElem?_getD, List.getElem?_eq_none hh]
  decide
theorem wide8_row {x : Ex} (h : wideB8 x = false) : ∀ r ∈ x.order, r.2.length ≤ 400 := fun r hr => by
 unfold wideB8 at h
 simp only [Bool.or_eq_false_iff, decide_eq_false_iff_not] at h
 obtain ⟨i, hi, rfl⟩ := List.mem_iff_getElem.1 hr
 have h1 := eQ x.order i hi
 have h2 := oI x.order (i + 1)
 rw [List.getD_eq_getElem?_getD, List.getElem?_eq_getElem hi] at h1
 simp only [Option.getD_some] at h1
 omega
set_option maxHeartbeats 4000000 in
theorem wide8_p (x : Ex) (hok : x.ok) : Pure E.P 11 [exOV x] (.bool (wideB8 x)) := by
 have hev := hok.ev
 have hrw := hok.row
 obtain ⟨hx, _, hf, ho, _⟩ := hok
 refine fnA Tryz.func11 Tryz.ntmps11 ?_
 refine uB (aoR fun _ => ?_)
 refine q40 ?_; refine q12 (uC (uA (uB (aoR fun _ => ?_))))
 refine q28 ?_; refine q16 ?_; refine q13 ?_; refine q12 (uC (uA ?_))
 iterate 2 refine uB ?_
 refine aoR fun _ => ?_; refine q28 ?_; refine q16 ?_; refine q13 ?_
 apply pG; exact rfl; exact rfl
 refine q11 ?_
 apply spF; exact rfl
 intro hc_; refine q1
 apply spF; exact rfl
 intro hc_; refine q35; refine q0 ?_; refine q11 ?_
 apply spF; exact rfl
 intro hc_; refine q2
 apply spF; exact rfl
 intro hc_; refine q3
 apply spF; exact rfl
 intro hc_; refine q18
 apply spF; exact rfl
 intro hc_; refine q35; refine q0 (uC ?_); refine uA ?_
 refine cnd ?_ ?_
 refine xL (fun hc_ => ?_); (try simp only [nrm] at hc_)
 refine uB (aoR fun _ => ?_)
 refine q12 (uC (uA ?_)); refine uH ?_; refine uR ?_; rotate_left
 iterate 2 refine xM ?_
 iterate 3 refine uJ fun _ => ?_; try (exfalso; omega)
 refine uG (uA ?_)
 iterate 2 refine uB ?_
 refine aoR fun _ => ?_; refine q12 (uC (uA (uF ?_)))
 rotate_left
 ·exact vB rfl (wide8_true1 (by omega))
 rename_i v1 _ _ g1 g2 g3 _
 refine uZ (X := Nat) (fun k => tmL [(1, .lo 1 (v1, 0) 3 0 0), (3, .int .i64 ((x.from_.length + sumR x.order k : Nat) : Int)), (4, .int .i64 k)]) (fun _ => stL [(1, ((v1, 0), ⟨3, [(exOV x).cells]⟩))])
  (fun k => k ≤ x.order.length ∧ x.from_.length + sumR x.order k ≤ 400) (fun k => x.order.length - k) 0 ⟨Nat.zero_le _, by simp [sumR]; omega⟩ (by repeat' (first | exact vP _ | exact vM _ | refine uL rfl ?_ | refine vF rfl ?_ | (refine uV rfl ?_ ?_; (simp [sumR])) | (refine uN rfl ?_ ?_; (simp [sumR])) | (refine vA rfl ?_ ?_; (simp [sumR])))) leP ?_
 rintro k ⟨hk, hn⟩
 have hr := hrw (k : Int).toNat
 iterate 2 refine uB ?_
 refine aoR fun _ => ?_; refine q11 ?_; refine q28 ?_; refine q16 ?_; refine q13 ?_; refine q37 (uC (uA ?_))
 refine cnd ?_ ?_
 refine uI fun _ => ?_; try (exfalso; omega)
 refine uG (uA (uB (uF (uB (aoR fun _ => ?_)))))
 refine q11 ?_; refine q28 ?_; refine q16 ?_; refine q11 ?_; refine q17 ?_; refine q23 ?_; refine q13 ?_; refine q36 ?_; refine q12 (uC (uA (uB (aoR fun _ => ?_))))
 refine q11 ?_
 apply pG; exact rfl; exact rfl
 refine uC (uA ?_); refine cnd ?_ ?_
 refine uI fun _ => ?_; try (exfalso; omega)
 refine uB (aoR fun _ => ?_)
 refine q12 (uC (uA ?_)); refine uH ?_; refine vO ?_
 iterate 2 refine uR ?_
 refine vO ?_; refine uR ?_; rotate_left
 refine uJ fun _ => ?_; try (exfalso; omega)
 refine uG ?_; refine vI ?_; refine uA (aoR fun _ => ?_)
 refine q11 ?_; refine q36 ?_; refine q12 (uC (uA ?_)); rotate_left
 refine uJ fun _ => ?_; try (exfalso; omega)
 refine uO ?_
 iterate 2 refine vH ?_
 refine vR ?_; refine uA ?_
 iterate 2 refine uB ?_
 refine aoR fun _ => ?_; refine q12 (uC (uA (uF ?_)))
 rotate_left
 ·refine vB rfl (wide8_true2 (k := k + 1) ?_)
  rename_i h _
  rw [eQ _ _ (by omega)]
  rw [Int.toNat_natCast] at h
  omega
 ·have hs := eQ x.order k (by omega)
  rename_i h _
  rw [Int.toNat_natCast] at h
  refine vJ (k + 1) ⟨by omega, by omega⟩ (by omega) (by repeat' (first | exact vP _ | exact vM _ | refine uL rfl ?_ | refine vF rfl ?_ | (refine uV rfl ?_ ?_; (rw [hs, Int.toNat_natCast]; omega)) | (refine uN rfl ?_ ?_; (rw [hs, Int.toNat_natCast]; omega)) | (refine vA rfl ?_ ?_; (rw [hs, Int.toNat_natCast]; omega)))) leP
 have e : k = x.order.length := by omega
 subst e
 refine uZ (X := Nat) (fun i => tmL [(1, .lo 1 (v1, 0) 3 0 0), (3, .int .i64 ((x.from_.length + sumR x.order x.order.length + sumE x.evs i : Nat) : Int)), (5, .int .i64 i)]) (fun _ => stL [(1, ((v1, 0), ⟨3, [(exOV x).cells]⟩))])
  (fun i => i ≤ x.evs.length ∧ x.from_.length + sumR x.order x.order.length + sumE x.evs i ≤ 400) (fun i => x.evs.length - i) 0 ⟨Nat.zero_le _, by simpa [sumE] using hn⟩ (by repeat' (first | exact vP _ | exact vM _ | refine uL rfl ?_ | refine vF rfl ?_ | (refine uV rfl ?_ ?_; (simp [sumE])) | (refine uN rfl ?_ ?_; (simp [sumE])) | (refine vA rfl ?_ ?_; (simp [sumE])))) leP ?_
 rintro i ⟨hi, hm⟩
 have he := hev (i : Int).toNat
 iterate 2 refine uB ?_
 refine aoR fun _ => ?_; refine q11 ?_; refine q28 ?_; refine q16 ?_; refine q13 ?_; refine q37 (uC (uA ?_))
 refine cnd ?_ ?_
 refine uI fun _ => ?_; try (exfalso; omega)
 refine uG (uA (uB (uF (uB ?_))))
 refine vE (E := E) ?_ (fun _ => ?_); exact rfl
 refine q38 ?_; refine q56 ?_
 apply wG; exact rfl; exact rfl; exact rfl; exact rfl; (first | exact rfl | exact uW (by omega) (0 : Int) | exact uW (by omega) default | exact hrow _ | assumption); exact rfl
 refine q38 ?_; refine q30 ?_; refine q52 ?_; refine q50 ?_; refine q59 ?_
 apply lP; exact rfl; exact rfl; omega
 refine q56 ?_
 apply wG; exact rfl; exact rfl; exact rfl; exact rfl; (first | exact rfl | exact uW (by omega) (0 : Int) | exact uW (by omega) default | exact hrow _ | assumption); exact rfl
 refine q38 ?_; refine q30 ?_; refine q52 ?_; refine q50 ?_; refine q59 ?_
 apply lP; exact rfl; exact rfl; omega
 refine q56 ?_
 apply wG; exact rfl; exact rfl; exact rfl; exact rfl; (first | exact rfl | exact uW (by omega) (0 : Int) | exact uW (by omega) default | exact hrow _ | assumption); exact rfl
 refine q38 ?_; refine q30 ?_; refine q52 ?_; refine q50 ?_; refine q59 ?_
 apply lP; exact rfl; exact rfl; omega
 apply wF; exact rfl
 refine vV ?_ ?_; (first | ((try dsimp only [wkeys]); decide +kernel) | exact rfl)
 refine uA (uB (aoR fun _ => ?_))
 refine q11 ?_
 apply pG; exact rfl; exact rfl
 refine uC (uA ?_); refine cnd ?_ ?_
 refine uI fun _ => ?_; try (exfalso; omega)
 refine uB (aoR fun _ => ?_)
 refine q12 (uC (uA ?_)); refine uH ?_; refine vO ?_
 iterate 2 refine uR ?_
 refine vO ?_; refine uR ?_; rotate_left
 refine uJ fun _ => ?_; try (exfalso; omega)
 refine uG ?_; refine vI ?_; refine uA (aoR fun _ => ?_)
 refine q11 ?_; refine q36 ?_; refine q12 (uC (uA ?_)); rotate_left
 refine uJ fun _ => ?_; try (exfalso; omega)
 refine uO ?_
 iterate 2 refine vH ?_
 refine vR ?_; refine uA (uB (aoR fun _ => ?_))
 refine q12 (uC (uA ?_)); refine uH ?_; rotate_left
 ·refine vB rfl (wide8_true3 (k := i + 1) ?_)
  rename_i h _
  rw [jG _ _ (by omega)]
  unfold Ev.lens
  rw [Int.toNat_natCast] at h
  omega
 ·have hs := jG x.evs i (by omega)
  unfold Ev.lens at hs
  rename_i h _
  rw [Int.toNat_natCast] at h
  refine vJ (i + 1) ⟨by omega, by omega⟩ (by omega) (by repeat' (first | exact vP _ | exact vM _ | refine uL rfl ?_ | refine vF rfl ?_ | (refine uV rfl ?_ ?_; (rw [hs, Int.toNat_natCast]; omega)) | (refine uN rfl ?_ ?_; (rw [hs, Int.toNat_natCast]; omega)) | (refine vA rfl ?_ ?_; (rw [hs, Int.toNat_natCast]; omega)))) leP
 ·have e : i = x.evs.length := by omega
  subst e
  refine vB rfl ?_
  unfold wideB8
  rw [eq_comm]
  simp only [Bool.or_eq_false_iff, decide_eq_false_iff_not]
  omega
set_option maxRecDepth 100000
def ev8 (hart kind val rval : Int) : Ev := ⟨hart, kind, 0, val, rval, false, false, 0, 0, false, ⟨none, 0, 0⟩, ⟨none, 0, 0⟩, ⟨none, 0, 0⟩, [], [], []⟩
def kx8 : Ex := ⟨default, default, default, [ev8 (-1) 5 0 0, ev8 0 2 1 0, ev8 0 1 0 0], [-1, -1, 0], [(default, [0, 1])]⟩
def ky8 : Ex := ⟨default, default, default, [ev8 (-1) 5 0 0, ev8 0 2 1 0, ev8 0 1 0 1], [-1, -1, 1], [(default, [0, 1])]⟩
theorem mA {l : List Int} (h : l.Pairwise fun a b => decide (a ≤ b) = true) : sortI l = l := by
 unfold sortI
 exact List.mergeSort_of_pairwise h
theorem kx8_ok : kx8.fit := by
 refine ⟨⟨by decide, fun e he => ?_, by decide, by decide, by decide⟩, by decide⟩
 simp only [kx8, List.mem_cons, List.not_mem_nil, or_false] at he
 rcases he with rfl | rfl | rfl <;> (unfold Ev.ok Ev.wf ev8; decide)
theorem ky8_ok : ky8.fit := by
 refine ⟨⟨by decide, fun e he => ?_, by decide, by decide, by decide⟩, by decide⟩
 simp only [ky8, List.mem_cons, List.not_mem_nil, or_false] at he
 rcases he with rfl | rfl | rfl <;> (unfold Ev.ok Ev.wf ev8; decide)
theorem kx8_check : checkI kx8 = 0 := by
 have h1 : addrsTo kx8.evs = [0] := by decide
 have h2 : evsTo kx8.evs [0] kx8.evs.length = true := by decide
 have h3 : fromB kx8.evs kx8.from_ = true := by decide
 have h4 : orderB kx8.evs [0] kx8.order = true := by
  unfold orderB rowsTo
  rw [show List.range kx8.order.length = [0] from rfl]
  simp only [List.all_cons, List.all_nil, Bool.and_true]
  have : sortI [0, 1] = [0, 1] := mA (by decide)
  unfold rowOk
  rw [show (kx8.order.getD 0 default).2 = [0, 1] from rfl, this]
  decide
 unfold checkI
 rw [h1, h2, h3, h4]
 rfl
theorem ky8_check : checkI ky8 = 0 := by
 have h1 : addrsTo ky8.evs = [0] := by decide
 have h2 : evsTo ky8.evs [0] ky8.evs.length = true := by decide
 have h3 : fromB ky8.evs ky8.from_ = true := by decide
 have h4 : orderB ky8.evs [0] ky8.order = true := by
  unfold orderB rowsTo
  rw [show List.range ky8.order.length = [0] from rfl]
  simp only [List.all_cons, List.all_nil, Bool.and_true]
  have : sortI [0, 1] = [0, 1] := mA (by decide)
  unfold rowOk
  rw [show (ky8.order.getD 0 default).2 = [0, 1] from rfl, this]
  decide
 unfold checkI
 rw [h1, h2, h3, h4]
 rfl
theorem kx8_not : allowT kx8 = (false, 0) := by
 unfold allowT
 rw [kx8_check, if_pos rfl, show allowB kx8 = false by decide +kernel]
theorem ky8_is : allowT ky8 = (true, 0) := by
 unfold allowT
 rw [ky8_check, if_pos rfl, show allowB ky8 = true by decide +kernel]
set_option maxHeartbeats 4000000 in
theorem known8_p : Pure E.P 14 [] (.bool true) := by
 have hX := fO kx8 kx8_ok (by decide)
 have hY := fO ky8 ky8_ok (by decide)
 rw [kx8_not] at hX
 rw [ky8_is] at hY
 have n7 : NilS 7 := ⟨trivial⟩
 have n8 : NilS 8 := ⟨trivial⟩
 have n9 : NilS 9 := ⟨trivial⟩
 have n20 : NilS 20 := ⟨trivial⟩
 have n21 : NilS 21 := ⟨trivial⟩
 have n22 : NilS 22 := ⟨trivial⟩
 have f10 : Frozen 10 := ⟨trivial⟩
 have f11 : Frozen 11 := ⟨trivial⟩
 have f12 : Frozen 12 := ⟨trivial⟩
 have f13 : Frozen 13 := ⟨trivial⟩
 have f23 : Frozen 23 := ⟨trivial⟩
 have f24 : Frozen 24 := ⟨trivial⟩
 have f25 : Frozen 25 := ⟨trivial⟩
 have f26 : Frozen 26 := ⟨trivial⟩
 refine fnA Tryz.func14 Tryz.ntmps14 ?_
 refine uB (aoR fun _ => ?_)
 refine q12 (uC (uA (uB (aoR fun _ => ?_))))
 iterate 3 (apply nR; assumption; exact rfl; exact rfl; exact rfl; exact rfl; exact rfl; exact rfl)
 iterate 4 (apply cV; assumption; exact rfl; exact rfl; exact rfl; decide; decide; decide; exact rfl; exact rfl; (repeat (first | exact FzR.nil | exact FzR.ints _ | exact FzR.d _ | exact hfz _ | exact FzC.map _ | exact FzC.nil | apply FzR.take | apply FzR.drop | apply FzR.app | apply FzR.cons | apply FzC.cons | assumption)); (first | rfl | (first | omega | (simp only [List.length_append, List.length_map, List.length_take, List.length_drop, List.length_cons, List.length_nil, List.length_replicate, uY] <;> omega))))
 refine q54 ?_
 apply vQ; exact rfl
 refine q15 (uC (uA (uB (aoR fun _ => ?_))))
 refine q14 ?_
 apply uP; exact rfl; exact .fn _ _ _; exact rfl; (exact hX)
 refine q11 ?_
 iterate 2 (apply wQ; exact rfl; exact rfl)
 iterate 2 refine q12 ?_
 refine uC (uA (uB (aoR fun _ => ?_)))
 iterate 3 (apply nR; assumption; exact rfl; exact rfl; exact rfl; exact rfl; exact rfl; exact rfl)
 iterate 4 (apply cV; assumption; exact rfl; exact rfl; exact rfl; decide; decide; decide; exact rfl; exact rfl; (repeat (first | exact FzR.nil | exact FzR.ints _ | exact FzR.d _ | exact hfz _ | exact FzC.map _ | exact FzC.nil | apply FzR.take | apply FzR.drop | apply FzR.app | apply FzR.cons | apply FzC.cons | assumption)); (first | rfl | (first | omega | (simp only [List.length_append, List.length_map, List.length_take, List.length_drop, List.length_cons, List.length_nil, List.length_replicate, uY] <;> omega))))
 refine q54 ?_
 apply vQ; exact rfl
 refine q15 (uC (uA (uB (aoR fun _ => ?_))))
 refine q14 ?_
 apply uP; exact rfl; exact .fn _ _ _; exact rfl; (exact hY)
 refine q11 ?_
 iterate 2 (apply wQ; exact rfl; exact rfl)
 iterate 2 refine q12 ?_
 refine uC (uA (uB (aoR fun _ => ?_)))
 refine q11 ?_
 apply xV; exact rfl
 refine q11 ?_
 apply spT; exact rfl
 intro hc_; refine q1
 apply spT; exact rfl
 intro hc_; refine q7; refine q4 ?_; refine q11 ?_
 apply spT; exact rfl
 intro hc_; refine q1; refine q4 ?_; refine q11 ?_
 apply spT; exact rfl
 intro hc_; refine q1
 apply spT; exact rfl
 intro hc_; refine q7; refine q4 ?_; refine q12 (uC ?_); refine uA ?_; refine uH ?_
 rotate_left
 exact vB rfl rfl
set_option maxRecDepth 100000
set_option maxHeartbeats 4000000 in
theorem gU (x : Ex) (n : Nat) (l : List Int) (hx : x.evs.length ≤ 1152921504606846976) (hn : n < x.evs.length) (hl : l.length ≤ 1152921504606846976) :
  Pure E.P 30 [exOV x, .int .i64 n, .d (ints l)] (.bool (hangsB x.evs n l)) := by
 refine fnA Tryz.func30 Tryz.ntmps30 ?_
 refine uB (aoR fun _ => ?_)
 refine q40 ?_; refine q12 (uC (uA ?_))
 iterate 2 refine uB ?_
 refine aoR fun _ => ?_; refine q12 (uC (uA (uF ?_)))
 rotate_left
 rename_i v0 v1
 refine uZ (X := Nat) (fun k => tmL [(1, .int .i64 n), (2, .d (ints l)), (3, .lo 3 (v0, 0) 3 0 0), (7, .int .i64 k)]) (fun _ => stL [(3, ((v0, 0), ⟨3, [(exOV x).cells]⟩))]) (fun k => k ≤ l.length ∧ hangsTo x.evs n l k = true) (fun k => l.length - k) 0 ⟨Nat.zero_le _, rfl⟩ leP leP ?_
 intro k hk
 obtain ⟨hk, ht⟩ := hk
 iterate 2 refine uB ?_
 refine aoR fun _ => ?_
 iterate 2 refine q11 ?_
 refine q13 ?_; refine q37 (uC (uA ?_)); refine cnd ?_ ?_
 refine uI fun _ => ?_; try (exfalso; omega)
 refine uG (uA (uB (uF (uB (aoR fun _ => ?_)))))
 iterate 2 refine q11 ?_
 refine q17 ?_; refine q23 ?_; refine q12 (uC (uA (uB ?_)))
 refine vE (E := E) ?_ (fun _ => ?_); exact rfl
 refine q38 ?_
 apply pI; exact rfl; exact rfl
 refine q38 ?_
 apply dpF; exact rfl
 intro hc_; refine q1
 apply dpF; exact rfl
 intro hc_; refine q1
 apply dpF; exact rfl
 intro hc_; refine q21; refine q25 ?_; refine q38 ?_
 apply dpF; exact rfl
 intro hc_; refine q1
 apply dpF; exact rfl
 intro hc_; refine q35
 apply dpF; exact rfl
 intro hc_; refine q1
 apply vD; exact rfl; exact rfl
 intro hc_; refine q1
 apply vD; exact rfl; exact rfl
 intro hc_; refine q1
 apply vD; exact rfl; exact rfl
 intro hc_
 have hp_ := hc_; try simp only [nrm] at hp_
 refine q58
 apply vD; exact rfl; exact rfl
 intro hc_
 have hp_ := hc_; try simp only [nrm] at hp_
 refine q5
 apply vD; exact rfl; exact rfl
 intro hc_; refine q6
 apply vD; exact rfl; exact rfl
 intro hc_; refine q1
 apply vD; exact rfl; exact rfl
 intro hc_; refine q21
 apply dpF; exact rfl
 intro hc_; refine q10; refine q25 ?_; refine q38 ?_
 apply dpF; exact rfl
 intro hc_; refine q2
 apply dpF; exact rfl
 intro hc_; refine q3
 apply dpF; exact rfl
 intro hc_; refine q1
 apply dpF; exact rfl
 intro hc_
 have hp_ := hc_; try simp only [nrm] at hp_
 refine q5
 apply dpF; exact rfl
 intro hc_; refine q8
 apply dpF; exact rfl
 intro hc_; refine q6
 apply dpF; exact rfl
 intro hc_; refine q2
 apply dpF; exact rfl
 intro hc_; refine q3
 apply dpF; exact rfl
 intro hc_; refine q1
 apply dpF; exact rfl
 intro hc_
 have hp_ := hc_; try simp only [nrm] at hp_
 refine q5
 apply dpF; exact rfl
 intro hc_; refine q8
 apply dpF; exact rfl
 intro hc_; refine q6
 apply dpF; exact rfl
 intro hc_; refine q26; refine q25 ?_; refine q38 ?_
 apply dpF; exact rfl
 intro hc_; refine q2
 apply dpF; exact rfl
 intro hc_; refine q3
 apply dpF; exact rfl
 intro hc_; refine q1
 apply dpF; exact rfl
 intro hc_
 have hp_ := hc_; try simp only [nrm] at hp_
 refine q5
 apply dpF; exact rfl
 intro hc_; refine q47
 apply dpF; exact rfl
 intro hc_
 have hp_ := hc_; try simp only [nrm] at hp_
 apply vK; exact .plain rfl rfl; exact .fn _ _ _; exact wB; (exact yH _)
 apply dpF; exact rfl
 intro hc_; refine q42; refine q25 ?_
 refine vV ?_ ?_; (first | ((try dsimp only [wkeys]); decide +kernel) | exact rfl)
 refine uA ?_; refine cnd ?_ ?_
 refine xL (fun hc_ => ?_); (try simp only [nrm] at hc_)
 refine uB (aoR fun _ => ?_)
 refine q12 (uC (uA ?_)); refine uH ?_; refine vO ?_
 iterate 2 refine uR ?_
 refine vO ?_; refine uR ?_; rotate_left
 iterate 4 refine xM ?_
 iterate 2 refine uJ fun _ => ?_; try (exfalso; omega)
 refine xE (fun hc_ => ?_); (try simp only [nrm] at hc_)
 refine wT (fun _ => ?_); (try (exfalso; omega))
 refine xS ?_
 refine xJ (fun _ => ?_)
 refine uG ?_; refine vI ?_; refine uA (aoR fun _ => ?_)
 refine q11 ?_; refine q36 ?_; refine q12 (uC (uA ?_)); rotate_left
 refine uJ fun _ => ?_; try (exfalso; omega)
 refine uO ?_
 iterate 2 refine vH ?_
 refine vR ?_; refine uA (uB (aoR fun _ => ?_))
 refine q12 (uC (uA ?_)); refine uH ?_; rotate_left
 ·refine vB rfl ?_
  rename_i hc_ _
  refine (wP _ _ _ k (by omega) ?_).symm
  have e1 : ((k : Int) - 1).toNat = k - 1 := by omega
  simp only [Int.toNat_natCast, e1] at hc_
  unfold depOk
  grind
 ·refine round (k + 1) ⟨by omega, ?_⟩ (by omega) leP leP
  rw [aQ, ht, Bool.true_and]
  rename_i h1 h2 hc_ h3 h4 h5
  have e1 : ((k : Int) - 1).toNat = k - 1 := by omega
  simp only [Int.toNat_natCast, e1] at *
  unfold depOk
  grind
 ·refine vB rfl ?_
  have : k = l.length := by omega
  subst this
  exact ht.symm
end Go.Proofs.YtnkocjkkefnelaaGreat
