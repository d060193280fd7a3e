/- Parts. -/
import Derived.Test.YtjogffchdejabaaGreatDoorRows
import Derived.LaidSub
import Derived.LaidMore
import Derived.Lib.LaidTab
import Derived.Lib.LaidU8
import Derived.Test.YtjogffchdejabaaGreatDoorPs3
import Derived.Test.YtjogffchdejabaaGreatDoorPs4
import Derived.Test.YtjogffchdejabaaGreatDoorPs8
import Derived.Test.YtjogffchdejabaaGreatDoorPs10
import Derived.Test.YtjogffchdejabaaGreatDoorPs20
set_option linter.unusedVariables false
set_option linter.unusedSimpArgs false
set_option maxHeartbeats 4000000
set_option maxRecDepth 100000
namespace Go.Proofs.YtjogffchdejabaaGreatDoor
open Go.RowKit Go.Lib
theorem works_p : Pure E.P 17 [] (.bool true) := kG (Ev.works_run default).1 rfl fun G w vs hr hm => by
 rw [RepOL] at hr
 subst hr
 exact (Ev.works_run w).2.mono fun e w' ⟨h1, h2, h3, h4, h5, h6⟩ => ⟨h1, ⟨h2, h3, h4, h5, h6⟩⟩
theorem num_p (n : Int) : Pure E.P 16 [.int .i64 n] (.int .i64 n) := by
 refine fnA Tryz.func16 Tryz.ntmps16 ?_
 refine run ?_; refine aoR fun _ => ?_
 refine run ?_; refine aoR fun _ => ?_
 refine run ?_; rotate_left
 all_goals exact cB rfl rfl
theorem aQ (s : Stp) : checkT [[s]] = if s.right then 0 else 2 := by
 cases h : s.right with
 | false =>
  unfold checkT
  rw [if_neg (by simp), if_pos (by simp [threadOk, h])]; rfl
 | true =>
  have e2 : waysT [[s]] ≤ 1 := by
   have hs := zA h
   unfold waysT sAll
   simp only [List.flatten_cons, List.flatten_nil, List.append_nil, List.foldl_cons, List.foldl_nil]
   cases hs with
   | fence p q hp hq => exact Int.le_refl 1
   | cond n hn => exact Int.le_refl 1
   | load r v b a l hr hv hb => rcases (by omega : v = 0 ∨ v = 1 ∨ v = 2 ∨ v = 3) with rfl | rfl | rfl | rfl <;> exact Int.le_refl 1
   | store v n d b a l hv hb hd h0 => rcases (by omega : v = 0 ∨ v = 1 ∨ v = 2 ∨ v = 3) with rfl | rfl | rfl | rfl <;> exact Int.le_refl 1
   | both k r v n d b a l hk hr hv hb hd h0 => rcases (by omega : v = 0 ∨ v = 1 ∨ v = 2 ∨ v = 3) with rfl | rfl | rfl | rfl <;> rcases hk with rfl | rfl <;> exact Int.le_refl 1
  unfold checkT
  rw [if_neg (by simp), if_neg (by simp [threadOk, h]), if_neg]
  ·rfl
  ·have : accs [[s]].flatten ≤ 1 := iO _
   omega
set_option maxHeartbeats 4000000 in
theorem steps_p (s : Stp) (hn : s.n32) : Pure E.P 10 [stOV s] (.bool true) := by
 have f1 : Frozen 1 := ⟨trivial⟩
 have f3 : Frozen 3 := ⟨trivial⟩
 have f7 : Frozen 7 := ⟨trivial⟩
 have f8 : Frozen 8 := ⟨trivial⟩
 have cw := works_p
 have cn := fun n => num_p n
 have cr := rRight_p s
 have cc := eN [[s]]
 rw [aQ] at cc
 cases h : s.right with
 | true =>
  rw [h] at cr
  have cp := print_p [[s]] (by rw [aQ, h]; rfl) (by simpa [n32T] using hn)
  have cl := rline_p itoa_p oE s h hn
  have ll := dW h hn
  refine fnA Tryz.func10 Tryz.ntmps10 ?_
  refine run ?_; refine aoR fun _ => ?_
  refine run ?_; refine aoR fun _ => ?_
  refine run ?_; refine aoR fun _ => ?_
  refine run ?_
  apply uG; exact rfl; exact .fn _ _ _; exact rfl; (exact cp)
  refine run ?_; refine aoR fun _ => ?_
  refine run ?_
  apply uG; exact rfl; exact .fn _ _ _; exact rfl; (exact cr)
  refine run ?_; refine cnd ?_ ?_; refine fX ?_
  exact yN
  refine eA ?_; refine xD ?_; refine run ?_; refine aoR fun _ => ?_
  refine run ?_
  apply uG; exact rfl; exact .fn _ _ _; exact rfl; (exact cn _)
  refine run ?_
  apply spT; exact rfl
  intro hc_
  have hp_ := hc_; try simp only [nrm] at hp_
  apply uO; (exact EvM.plain rfl rfl); exact .fn _ _ _; exact vS; (exact cl)
  apply spT; exact rfl
  intro hc_
  have hp_ := hc_; try simp only [nrm] at hp_
  apply nZ; (exact EvM.plain rfl rfl); ((refine EvM.mb _ rfl ?_; assumption)); (((simp only [List.length_append, List.length_cons, List.length_nil]); omega))
  apply spT; exact rfl
  intro hc_
  have hp_ := hc_; try simp only [nrm] at hp_
  apply nZ; ((refine EvM.mb _ rfl ?_; assumption)); (exact EvM.plain rfl rfl); (((simp only [List.length_append, List.length_cons, List.length_nil]); omega))
  apply spT; exact rfl
  intro hc_
  have hp_ := hc_; try simp only [nrm] at hp_
  apply M_eqlL; ((refine EvM.mb _ rfl ?_; assumption)); ((refine EvM.mb _ rfl ?_; assumption))
  refine run ?_
  apply spT; exact rfl
  intro hc_
  have hp_ := hc_; try simp only [nrm] at hp_
  apply uO; (exact EvM.plain rfl rfl); exact .fn _ _ _; exact vS; (exact cw)
  refine run ?_; rotate_left
  all_goals (refine vU rfl ?_; simp [printT, threadB, wHart])
 | false =>
  have e : checkT [[s]] = 2 := by rw [aQ, h]; rfl
  rw [h] at cr cc
  have cp := printNo_p [[s]] (by rw [e]; decide)
  rw [e] at cp
  refine fnA Tryz.func10 Tryz.ntmps10 ?_
  refine run ?_; refine aoR fun _ => ?_
  refine run ?_; refine aoR fun _ => ?_
  refine run ?_; refine aoR fun _ => ?_
  refine run ?_
  apply uG; exact rfl; exact .fn _ _ _; exact rfl; (exact cp)
  refine run ?_; refine aoR fun _ => ?_
  refine run ?_
  apply uG; exact rfl; exact .fn _ _ _; exact rfl; (exact cr)
  refine run ?_; refine cnd ?_ ?_; refine fX ?_; refine aL ?_; refine run ?_; refine aoR fun _ => ?_
  refine run ?_
  apply S_eqlL; exact rfl; exact rfl
  refine run ?_
  apply spT; exact rfl
  intro hc_
  have hp_ := hc_; try simp only [nrm] at hp_
  apply uO; (exact EvM.plain rfl rfl); exact .fn _ _ _; exact vS; (exact cn _)
  refine run ?_
  apply spT; exact rfl
  intro hc_
  have hp_ := hc_; try simp only [nrm] at hp_
  apply uO; (exact EvM.plain rfl rfl); exact .fn _ _ _; exact vS; (exact cc)
  apply spT; exact rfl
  intro hc_
  have hp_ := hc_; try simp only [nrm] at hp_
  apply uO; (exact EvM.plain rfl rfl); exact .fn _ _ _; exact vS; (exact cn _)
  refine run ?_
  apply spT; exact rfl
  intro hc_
  have hp_ := hc_; try simp only [nrm] at hp_
  apply uO; (exact EvM.plain rfl rfl); exact .fn _ _ _; exact vS; (exact cw)
  refine run ?_; rotate_left
  refine eA ?_
  exact zD
  all_goals exact vU rfl rfl
set_option maxRecDepth 100000
open Go.RowKit Go.ChangeShapes Go.WideShapes Go.Deep
theorem cells_stp : Tryz.prog.cellsOf 47 = 10 := by kernel_rfl
theorem cells_skind : Tryz.prog.cellsOf 45 = 1 := by kernel_rfl
theorem list10 {α : Type} {l : List α} (h : l.length = 10) : ∃ a b c d e f g i j k, l = [a, b, c, d, e, f, g, i, j, k] := by
 match l, h with
 | [a, b, c, d, e, f, g, i, j, k], _ => exact ⟨a, b, c, d, e, f, g, i, j, k, rfl⟩
section
variable {H : Type} {enc : TypeId × Value → H} {W : World} {sp : Nat → Bool} {held : Bool}
theorem step_rep {fuel : Nat} {cs : List Value} {x : DataW H × List MemPlace} (hlen : cs.length = 10) (h : DataW.trod enc Tryz.prog W 0 sp held fuel 47 cs = some x) :
  ∃ s : Stp, (∀ (j : Nat) (t : TV), (stTV s)[j]? = some t → ∃ v, cs[j]? = some v ∧ Rep (allM W) t v) ∧ s.n32 ∧ cs = [.int .i64 s.kind, .int .i64 s.reg, .int .i64 s.var, .int .u32 s.num, .int .i64 s.data, .int .i64 s.byr, .bool s.aq, .bool s.rl, .int .i64 s.pred, .int .i64 s.succ] := by
 obtain ⟨xs, n, _, rfl, _, hxl, hf⟩ := DataW.trod_struct Tryz.underlying47 h
 obtain ⟨c0, c1, c2, c3, c4, c5, c6, c7, c8, c9, rfl⟩ := list10 hlen
 have hxl : xs.length = 10 := hxl
 obtain ⟨x0, g0⟩ := yI hxl 0 (by decide)
 have t0 := hf 0 ⟨"Kind", 45, 0, false, "", "", 0⟩ rfl
 rw [g0] at t0
 rw [cells_skind, aI (i := 0) rfl] at t0
 obtain ⟨x1, g1⟩ := yI hxl 1 (by decide)
 have t1 := hf 1 ⟨"Reg", 3, 1, false, "", "", 8⟩ rfl
 rw [g1] at t1
 rw [xM, aI (i := 1) rfl] at t1
 obtain ⟨x2, g2⟩ := yI hxl 2 (by decide)
 have t2 := hf 2 ⟨"Var", 3, 2, false, "", "", 16⟩ rfl
 rw [g2] at t2
 rw [xM, aI (i := 2) rfl] at t2
 obtain ⟨x3, g3⟩ := yI hxl 3 (by decide)
 have t3 := hf 3 ⟨"Num", 34, 3, false, "", "", 24⟩ rfl
 rw [g3] at t3
 rw [cells_u32, aI (i := 3) rfl] at t3
 obtain ⟨x4, g4⟩ := yI hxl 4 (by decide)
 have t4 := hf 4 ⟨"Data", 3, 4, false, "", "", 32⟩ rfl
 rw [g4] at t4
 rw [xM, aI (i := 4) rfl] at t4
 obtain ⟨x5, g5⟩ := yI hxl 5 (by decide)
 have t5 := hf 5 ⟨"By", 3, 5, false, "", "", 40⟩ rfl
 rw [g5] at t5
 rw [xM, aI (i := 5) rfl] at t5
 obtain ⟨x6, g6⟩ := yI hxl 6 (by decide)
 have t6 := hf 6 ⟨"Aq", 4, 6, false, "", "", 48⟩ rfl
 rw [g6] at t6
 rw [eO, aI (i := 6) rfl] at t6
 obtain ⟨x7, g7⟩ := yI hxl 7 (by decide)
 have t7 := hf 7 ⟨"Rl", 4, 7, false, "", "", 49⟩ rfl
 rw [g7] at t7
 rw [eO, aI (i := 7) rfl] at t7
 obtain ⟨x8, g8⟩ := yI hxl 8 (by decide)
 have t8 := hf 8 ⟨"Pred", 3, 8, false, "", "", 56⟩ rfl
 rw [g8] at t8
 rw [xM, aI (i := 8) rfl] at t8
 obtain ⟨x9, g9⟩ := yI hxl 9 (by decide)
 have t9 := hf 9 ⟨"Succ", 3, 9, false, "", "", 64⟩ rfl
 rw [g9] at t9
 rw [xM, aI (i := 9) rfl] at t9
 obtain ⟨z0, e0, _, w0⟩ := DataW.trod_int Tryz.underlying45 t0
 obtain ⟨z1, e1, _, w1⟩ := DataW.trod_int Tryz.underlying3 t1
 obtain ⟨z2, e2, _, w2⟩ := DataW.trod_int Tryz.underlying3 t2
 obtain ⟨z3, e3, _, w3⟩ := DataW.trod_int Tryz.underlying34 t3
 obtain ⟨z4, e4, _, w4⟩ := DataW.trod_int Tryz.underlying3 t4
 obtain ⟨z5, e5, _, w5⟩ := DataW.trod_int Tryz.underlying3 t5
 obtain ⟨z6, e6, _⟩ := DataW.trod_bool Tryz.underlying4 t6
 obtain ⟨z7, e7, _⟩ := DataW.trod_bool Tryz.underlying4 t7
 obtain ⟨z8, e8, _, w8⟩ := DataW.trod_int Tryz.underlying3 t8
 obtain ⟨z9, e9, _, w9⟩ := DataW.trod_int Tryz.underlying3 t9
 simp only [List.cons.injEq, and_true] at e0 e1 e2 e3 e4 e5 e6 e7 e8 e9
 refine ⟨⟨z0, z1, z2, z3, z4, z5, z6, z7, z8, z9⟩, ?_, ⟨(mG w3).1, Int.lt_add_one_iff.1 (mG w3).2⟩, by rw [e0, e1, e2, e3, e4, e5, e6, e7, e8, e9]⟩
 rw [e0, e1, e2, e3, e4, e5, e6, e7, e8, e9]
 intro j t ht
 match j, ht with
 | 0, ht => cases ht; exact ⟨_, rfl, xR rfl⟩
 | 1, ht => cases ht; exact ⟨_, rfl, xR rfl⟩
 | 2, ht => cases ht; exact ⟨_, rfl, xR rfl⟩
 | 3, ht => cases ht; exact ⟨_, rfl, xR rfl⟩
 | 4, ht => cases ht; exact ⟨_, rfl, xR rfl⟩
 | 5, ht => cases ht; exact ⟨_, rfl, xR rfl⟩
 | 6, ht => cases ht; exact ⟨_, rfl, xR rfl⟩
 | 7, ht => cases ht; exact ⟨_, rfl, xR rfl⟩
 | 8, ht => cases ht; exact ⟨_, rfl, xR rfl⟩
 | 9, ht => cases ht; exact ⟨_, rfl, xR rfl⟩
 | n + 10, ht => cases ht
theorem step_arg {r : Reach} {b0 : Nat} {v : Value} {d : DataW H} {p : List MemPlace} (hv : Value.okWide Tryz.prog W r b0 47 v) (h : DataW.Trod enc Tryz.prog W 0 sp held 47 v d p) :
  ∃ s : Stp, s.n32 ∧ v = stV s := by
 obtain ⟨cs, rfl, hsz⟩ := okWide_struct Tryz.underlying47 hv
 obtain ⟨fuel, hf⟩ := h
 have hlen : cs.toList.length = 10 := by rw [Array.length_toList, hsz, cells_stp]
 obtain ⟨s, _, hn, hcs⟩ := step_rep hlen hf
 refine ⟨s, hn, ?_⟩
 unfold stV
 rw [← Array.toArray_toList (xs := cs), hcs]
end
set_option maxRecDepth 100000
open Go.RowKit Go.Lib
def pow10L : List Int := (List.range 20).map fun i => ((10 ^ i : Nat) : Int)
def powVar : String × DataW Unit := Rows.litmusStepsRow.laid.getD 2 ("", .nil)
theorem powG : Tryz.prog.globalNamed powVar.1 = some 1 := by kernel_rfl
theorem pow_of {L : List (String × DataW Unit)} (hf : (L.filter fun x => x.1.length == 28) = [powVar]) {W : World} (h : laidMetH Tryz.prog L W) : Pow10 W := by
 have h1 := h.filter fun x => x.1.length == 28
 rw [hf, MakeChecks.laidMetH_plain _ _ _ (by kernel_rfl)] at h1
 have hd : powVar = (powVar.1, tabData .u64 pow10L) := by kernel_rfl
 rw [hd] at h1
 have hT : Lib.TabIs Tryz.prog W powVar.1 .u64 pow10L := tabIs_of_head powG (by kernel_rfl) Tryz.underlying306 Tryz.underlying178 (by kernel_rfl) (by kernel_rfl) h1
 intro i hi
 have hl : pow10L.length = 20 := by decide
 rw [hT.cell powG i (by omega)]
 simp [pow10L, List.getD, hi]
end Go.Proofs.YtjogffchdejabaaGreatDoor
