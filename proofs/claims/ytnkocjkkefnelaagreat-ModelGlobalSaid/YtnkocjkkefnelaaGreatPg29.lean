/- Parts. -/
import Derived.Maps.OwnRows
import Derived.Test.YtnkocjkkefnelaaGreatPg9
import Derived.Test.YtnkocjkkefnelaaGreatPg13
import Derived.Test.YtnkocjkkefnelaaGreatPg15
set_option linter.unusedVariables false
set_option linter.unusedSimpArgs false
set_option maxHeartbeats 4000000
namespace Go.Proofs.YtnkocjkkefnelaaGreat
open Go.RowKit Go.Shelf Go.Maps Go.Sort
set_option maxHeartbeats 1000000 in
theorem out_c (n : Int) (p : Int × Int) (Bn : Nat) (w : World) (hB : Bn < w.heap.size) (hn : w.cell? ⟨Bn, 0, none⟩ = some (.int .i64 n)) :
  Calls Tryz.prog 88 #[.agg #[.int .i64 p.1, .int .i64 p.2], .pointer (some ⟨Bn, 0, none⟩)] w fun e w' => e = .returned (.bool (outB n p)) ∧ Below w.heap.size w w' := by
 obtain ⟨a, b⟩ := p
 unfold outB
 dsimp only
 obtain ⟨res, hres⟩ : ∃ z : Bool, (decide (a < 0) || decide (n ≤ a) || decide (b < 0) || decide (n ≤ b)) = z := ⟨_, rfl⟩
 rw [hres]
 have RES := Lib.hid hres
 clear hres
 have hb0 : Below w.heap.size w (w.alloc (.cells #[.int .i64 a, .int .i64 b] 73)) := (Below.refl _ _).alloc (Nat.le_refl _) _
 cases h1 : decide (a < 0) with
 | true =>
  have F : Hid (true = res) := Lib.hid (by rw [← RES.out, h1]; rfl)
  go_enter Tryz.func88, Tryz.ntmps88
  go_wp2
  go_ret
  exact ⟨uW F.out, hb0⟩
 | false =>
 cases h2 : decide (n ≤ a) with
 | true =>
  have F : Hid (true = res) := Lib.hid (by rw [← RES.out, h1, h2]; rfl)
  go_enter Tryz.func88, Tryz.ntmps88
  go_wp2
  go_ret
  exact ⟨uW F.out, hb0⟩
 | false =>
 cases h3 : decide (b < 0) with
 | true =>
  have F : Hid (true = res) := Lib.hid (by rw [← RES.out, h1, h2, h3]; rfl)
  go_enter Tryz.func88, Tryz.ntmps88
  go_wp2
  go_ret
  exact ⟨uW F.out, hb0⟩
 | false =>
 cases h4 : decide (n ≤ b) with
 | true =>
  have F : Hid (true = res) := Lib.hid (by rw [← RES.out, h1, h2, h3, h4]; rfl)
  go_enter Tryz.func88, Tryz.ntmps88
  go_wp2
  go_ret
  exact ⟨uW F.out, hb0⟩
 | false =>
  have F : Hid (false = res) := Lib.hid (by rw [← RES.out, h1, h2, h3, h4]; rfl)
  go_enter Tryz.func88, Tryz.ntmps88
  go_wp2
  go_ret
  exact ⟨uW F.out, hb0⟩
theorem any_take_succ (n : Int) (l : List (Int × Int)) {k : Nat} (hk : k < l.length) : (l.take (k + 1)).any (outB n) = ((l.take k).any (outB n) || outB n (l.getD k (0, 0))) := by
 rw [List.take_succ_eq_append_getElem hk, List.any_append, List.getD_eq_getElem?_getD, List.getElem?_eq_getElem hk]
 simp only [List.any_cons, List.any_nil, Bool.or_false, Option.getD_some]
set_option maxRecDepth 100000 in
set_option maxHeartbeats 1000000 in
theorem index_c (n : Int) (Bn : Nat) (s : Sl) (l : List (Int × Int)) (w : World) (hB : Bn < w.heap.size) (hn : w.cell? ⟨Bn, 0, none⟩ = some (.int .i64 n)) (hl : PairsZ w.heap.size w s l) :
  Calls Tryz.prog 107 #[.slice s.a s.n s.c, .func (.func 88) #[] #[.pointer (some ⟨Bn, 0, none⟩)]] w fun e w' => ∃ r : Int, e = .returned (.int .i64 r) ∧ decide (0 ≤ r) = l.any (outB n) ∧ Below w.heap.size w w' := by
 obtain ⟨a, sn, c⟩ := s
 obtain ⟨h1, h2, h3⟩ := hl
 dsimp only at h1 h3
 subst h1
 have H3 := Lib.hid h3
 have OC := Lib.hid (fun p w hB hn => out_c n p Bn w hB hn)
 clear h3
 go_enter Tryz.func107, Tryz.ntmps107
 go_wp2
 go_loopw [8] (fun i wr => ∃ k : Nat, k ≤ l.length ∧ i = .int .i64 k ∧ (l.take k).any (outB n) = false ∧ Below w.heap.size w wr) (fun i _ => l.length - (intOf i).toNat)
 case atStart => exact ⟨0, by omega, rfl, rfl, Below.refl _ _⟩
 case round =>
  obtain ⟨k, hk, rfl, hto, hbr⟩ := hrel
  have HTO := Lib.hid hto
  clear hto
  by_cases hlt : k < l.length
  ·obtain ⟨b, off, rfl, hbB, hcl⟩ := H3.out.resolve_left (by intro h; rw [h] at hlt; simp at hlt)
   obtain ⟨p, hp⟩ : ∃ p, l.getD k (0, 0) = p := ⟨_, rfl⟩
   have cc := hcl k hlt
   rw [hp] at cc
   have c0 : wr.cell? ⟨b, off + k * 2, none⟩ = some (.int .i64 p.1) := by rw [hbr.cell (p := ⟨b, off + k * 2, none⟩) hbB]; exact cc.1
   have c1 : wr.cell? ⟨b, off + k * 2 + 1, none⟩ = some (.int .i64 p.2) := by rw [hbr.cell (p := ⟨b, off + k * 2 + 1, none⟩) hbB]; exact cc.2
   have HA : Hid ((l.take (k + 1)).any (outB n) = outB n p) := Lib.hid (by rw [any_take_succ n l hlt, HTO.out, hp]; rfl)
   have ctr := Lib.hid (OC.out p wr (by have := hbr.size; omega) ((hbr.cell (p := ⟨Bn, 0, none⟩) hB).trans hn))
   clear hcl cc
   obtain ⟨ob, hob⟩ : ∃ bool_ : Bool, (outB n p) = bool_ := ⟨_, rfl⟩
   have OB := Lib.hid hob
   rw [hob] at ctr
   clear hob hp
   cases ob with
   | true =>
    go_wp2_with (go_at_call 88; refine ctr.out.mono ?_; rintro o w2 ⟨rfl, hb2⟩)
    go_ret
    refine ⟨k, rfl, ?_, hbr.trans (hb2.mono hbr.size)⟩
    have e1 : l.any (outB n) = true := by
     have e2 : (l.take (k + 1)).any (outB n) = true := by rw [HA.out, OB.out]
     rw [List.any_eq_true] at e2 ⊢
     obtain ⟨x, hx, hy⟩ := e2
     exact ⟨x, List.mem_of_mem_take hx, hy⟩
    rw [e1]; simp
   | false =>
    go_wp2_with (go_at_call 88; refine ctr.out.mono ?_; rintro o w2 ⟨rfl, hb2⟩)
    go_roundw
    case rel => first | exact ⟨k + 1, by omega, by go_num, by rw [HA.out, OB.out], hbr.trans (hb2.mono hbr.size)⟩ | ((repeat apply Exists.intro); exact ⟨⟨k + 1, by omega, by go_num, by rw [HA.out, OB.out], hbr.trans (hb2.mono hbr.size)⟩, rfl⟩)
    case measure => simp [intOf]; omega
  ·have hke : k = l.length := by omega
   have e1 : l.any (outB n) = false := by have := HTO.out; rwa [hke, List.take_length] at this
   go_wp2
   go_ret
   exact ⟨-1, rfl, by rw [e1]; rfl, hbr⟩
theorem jO (n : Int) (Bn : Nat) (s : Sl) (l : List (Int × Int)) (w : World) (hB : Bn < w.heap.size) (hn : w.cell? ⟨Bn, 0, none⟩ = some (.int .i64 n)) (hl : PairsZ w.heap.size w s l) :
  Calls Tryz.prog 87 #[.slice s.a s.n s.c, .func (.func 88) #[] #[.pointer (some ⟨Bn, 0, none⟩)]] w fun e w' => e = .returned (.bool (l.any (outB n))) ∧ Below w.heap.size w w' := by
 have ctr := Lib.hid (index_c n Bn s l w hB hn hl)
 obtain ⟨res, hres⟩ : ∃ z : Bool, l.any (outB n) = z := ⟨_, rfl⟩
 rw [hres] at ctr ⊢
 clear hres hl
 go_enter Tryz.func87, Tryz.ntmps87
 go_wp2_with fail
 refine ctr.out.mono ?_; rintro o w2 ⟨r, rfl, hr, hb2⟩
 cases hd : decide (0 ≤ r) with
 | true =>
  go_wp2
  go_ret
  exact ⟨by rw [← hr, hd]; rfl, hb2⟩
 | false =>
  go_wp2
  go_ret
  exact ⟨by rw [← hr, hd]; rfl, hb2⟩
open Go.RowKit Go.Maps
abbrev St := Nat → Nat
def upd (st : St) (a v : Nat) : St := fun i => if i = a then v else st i
def dfsL (f : St → Nat → Bool × St) : St → List Nat → Bool × St
 | st, [] => (true, st)
 | st, b :: r => if (f st b).1 = true then dfsL f (f st b).2 r else (false, (f st b).2)
def dfs (nx : Nat → List Nat) : Nat → St → Nat → Bool × St
 | 0, st, _ => (false, st)
 | n + 1, st, a =>
  if 0 < st a then (st a == 2, st) else
   if (dfsL (dfs nx n) (upd st a 1) (nx a)).1 = true then (true, upd (dfsL (dfs nx n) (upd st a 1) (nx a)).2 a 2) else (false, (dfsL (dfs nx n) (upd st a 1) (nx a)).2)
def whites : Nat → St → Nat
 | 0, _ => 0
 | n + 1, st => whites n st + (if st n = 0 then 1 else 0)
theorem zN (a v : Nat) (st : St) (hv : v ≠ 0) : ∀ n, whites n (upd st a v) ≤ whites n st
 | 0 => Nat.le_refl _
 | n + 1 => by
  have := zN a v st hv n
  unfold whites upd
  unfold upd at this
  by_cases h : n = a
  ·rw [if_pos h, if_neg hv]; omega
  ·rw [if_neg h]; omega
theorem zM (a v : Nat) (st : St) (hv : v ≠ 0) (h0 : st a = 0) : ∀ n, a < n → whites n (upd st a v) + 1 ≤ whites n st
 | 0, h => by omega
 | n + 1, h => by
  unfold whites
  by_cases hn : n = a
  ·have := zN a v st hv n
   have e1 : upd st a v n = v := by unfold upd; rw [if_pos hn]
   rw [e1, if_neg hv, hn, h0]
   rw [hn] at this
   simp
   omega
  ·have := zM a v st hv h0 n (by omega)
   have e1 : upd st a v n = st n := by unfold upd; rw [if_neg hn]
   rw [e1]; omega
def Reads (D : DataW Unit) (st : St) : Prop := ∀ i : Nat, i < 64 → D.atKey (.int .i64 (i : Int)) (.lit (.int .i64 0)) = .lit (.int .i64 (st i : Int))
theorem Reads.upd {D : DataW Unit} {st : St} (h : Reads D st) (hm : IsMap D) (a v : Nat) : Reads (D.put (.int .i64 (a : Int)) (.lit (.int .i64 (v : Int)))) (upd st a v) := by
 intro i hi
 unfold Go.Proofs.YtnkocjkkefnelaaGreat.upd
 by_cases he : i = a
 ·subst he
  rw [if_pos rfl]
  exact atKey_put_same hm (show WideAt.IsKeyLit (Lit.int .i64 (i : Int)) from trivial) _ _
 ·rw [if_neg he, atKey_put_other (by intro e; injection e with _ e2; omega)]
  exact h i hi
theorem oJ : Keyed Tryz.prog 3 := int_keyed Tryz.underlying3
theorem oK {i : Nat} (h : i < 64) : keyOf Tryz.prog 3 (.int .i64 (i : Int)) = some (.int .i64 (i : Int)) := keyOf_int_mk Tryz.underlying3 (by
 simp only [Lit.wf, Bool.and_eq_true, decide_eq_true_eq]
 have e1 : IntKind.i64.min = -9223372036854775808 := by decide
 have e2 : IntKind.i64.max = 9223372036854775807 := by decide
 omega)
theorem wfI {v : Nat} (h : v ≤ 2) : (Lit.int .i64 (v : Int)).wf = true := by
 simp only [Lit.wf, Bool.and_eq_true, decide_eq_true_eq]
 have e1 : IntKind.i64.min = -9223372036854775808 := by decide
 have e2 : IntKind.i64.max = 9223372036854775807 := by decide
 omega
theorem xP {P : Program} (w : World) {ops : Array Oper} {rest : List Oper} {o : Oper} {a : Act} {Q : Exit → Act → World → Prop}
  (hg : o.guard = none) (m x : Operand) (t : TypeId) (hop : o.op = Op.lookup t m x false) (mv key v : Value) (hm : a.eval m = mv) (hx : a.eval x = key) (hrun : (Instr.lookup t mv key false).run P w = .ok v w)
  (hK : wpList P ops Q rest (a.put o.dst v) w) : wpList P ops Q (o :: rest) a w := by
 refine wpList_plain hg fun K' hK' => ?_
 unfold Oper.wp
 simp [execOp, hop, hm, hx, hrun, Result.andThen]
 exact hK' _ _ hK
structure Ground (nx : Nat → List Nat) (w0 : World) (Bs Bt Bc ms mt : Nat) : Prop where
 h8 : w0.cell? ⟨Bs, 0, none⟩ = some (.map (some ms))
 h5 : w0.cell? ⟨Bt, 0, none⟩ = some (.map (some mt))
 h9 : w0.cell? ⟨Bc, 0, none⟩ = some (.func (.func 89) #[] #[.pointer (some ⟨Bs, 0, none⟩), .pointer (some ⟨Bt, 0, none⟩), .pointer (some ⟨Bc, 0, none⟩)])
 ns : Bs ≠ ms
 nt : Bt ≠ ms
 nc : Bc ≠ ms
 nm : mt ≠ ms
 lm : mt < w0.heap.size
 rng : ∀ a : Nat, a < 64 → ∀ b ∈ nx a, b < 64
 len : ∀ a : Nat, (nx a).length ≤ 1152921504606846976
 adj : ∀ a : Nat, a < 64 → ∃ s : Sl, (∀ w' : World, w'.heap[mt]? = w0.heap[mt]? → (Instr.lookup 112 (.map (some mt)) (.int .i64 (a : Int)) false).run Tryz.prog w' = .ok (.slice s.a s.n s.c) w') ∧ s.n = (nx a).length ∧
  (nx a = [] ∨ ∃ b off, s.a = some ⟨b, off, none⟩ ∧ b ≠ ms ∧ ∀ k, k < (nx a).length → w0.cell? ⟨b, off + k, none⟩ = some (.int .i64 ((nx a).getD k 0 : Int)))
def At (w0 : World) (ms : Nat) (M : Nat) (st : St) (w : World) : Prop :=
 w0.grownBy w (some ms) ∧ (∀ i, st i ≤ 2) ∧ ∃ (nn : Nat) (D : DataW Unit), w.ownsMap Tryz.prog 3 (plainElem Tryz.prog 3) ms nn D ∧ Reads D st ∧ nn + 2 * whites 64 st ≤ M
theorem lS (F : St → Nat → Bool × St) (st : St) (l : List Nat) {k : Nat} (hk : k < l.length) : dfsL F st (l.drop k) = if (F st (l.getD k 0)).1 = true then dfsL F (F st (l.getD k 0)).2 (l.drop (k + 1)) else (false, (F st (l.getD k 0)).2) := by
 rw [List.drop_eq_getElem_cons hk, List.getD_eq_getElem?_getD, List.getElem?_eq_getElem hk]
 rfl
theorem look8 {w : World} {ms nn : Nat} {D : DataW Unit} {st : St} (hown : w.ownsMap Tryz.prog 3 (plainElem Tryz.prog 3) ms nn D) (hR : Reads D st) {a : Nat} (ha : a < 64) :
  (Instr.lookup 78 (.map (some ms)) (.int .i64 (a : Int)) false).run Tryz.prog w = .ok (.int .i64 (st a : Int)) w := by
 obtain ⟨c, hrun, hat, _⟩ := hown.lookup_int oJ Tryz.underlying78 Tryz.underlying3 (tL _) (oK ha)
 rw [hR a ha] at hat
 simp only [DataW.lit.injEq, Lit.int.injEq, true_and] at hat
 rw [hat]; exact hrun
set_option maxRecDepth 100000 in
set_option maxHeartbeats 2000000 in
theorem dfs_c (nx : Nat → List Nat) (w0 : World) (Bs Bt Bc ms mt : Nat) (G : Ground nx w0 Bs Bt Bc ms mt) : ∀ (f : Nat) (st : St) (a : Nat) (w : World) (M : Nat), a < 64 → whites 64 st < f → At w0 ms M st w → M ≤ 1000 →
  Calls Tryz.prog 89 #[.int .i64 (a : Int), .pointer (some ⟨Bs, 0, none⟩), .pointer (some ⟨Bt, 0, none⟩), .pointer (some ⟨Bc, 0, none⟩)] w fun e w' => e = .returned (.bool (dfs nx f st a).1) ∧ At w0 ms M (dfs nx f st a).2 w' ∧ whites 64 (dfs nx f st a).2 ≤ whites 64 st := by
 intro f
 induction f with
 | zero => intro st a w M _ h; exact absurd h (Nat.not_lt_zero _)
 | succ f ih =>
  intro st a w M ha hw hAt hM
  have AT := Lib.hid hAt
  obtain ⟨hg, h2, nn, D, hown, hR, hMw⟩ := hAt
  have hrun8 := look8 hown hR ha
  have c8 := hg.cell G.h8 (by intro e; injection e with e; exact G.ns e)
  have GR := Lib.hid G
  by_cases h0 : 0 < st a
  ·have hd : dfs nx (f + 1) st a = (st a == 2, st) := by unfold dfs; rw [if_pos h0]
   rw [hd]
   obtain ⟨v, hv⟩ : ∃ v, st a = v := ⟨_, rfl⟩
   rw [hv] at hrun8 h0 ⊢
   have h0z : (0 : Int) < (v : Int) := by omega
   have e1 : ((v : Int) == 2) = (v == 2) := by
    by_cases h : v = 2
    ·subst h; rfl
    ·rw [beq_eq_false_iff_ne.2 h, beq_eq_false_iff_ne.2 (by omega)]
   have E1 := Lib.hid e1
   clear e1 hv hd ih hown hR hg G
   go_enter Tryz.func89, Tryz.ntmps89
   go_wp2_with (first | (at_lookup; refine xP _ rfl _ _ 78 rfl _ _ _ rfl rfl hrun8 ?_) | go_in)
   go_ret
   exact ⟨by first | (rw [← E1.out]; rfl) | (rw [← E1.out]), AT.out, Nat.le_refl _⟩
  ·have h00 : st a = 0 := by omega
   rw [h00] at hrun8
   have hwu := zM a 1 st (by omega) h00 64 ha
   have hM1 : 1 ≤ M := by omega
   obtain ⟨l, hl⟩ : ∃ l, nx a = l := ⟨_, rfl⟩
   obtain ⟨⟨va, vn, vc⟩, hlk, hvn, hrow⟩ := G.adj a ha
   dsimp only at hlk hvn hrow
   rw [hl] at hvn hrow
   subst hvn
   have hlen := G.len a
   have hrng := G.rng a ha
   rw [hl] at hlen hrng
   have DF : Hid (dfs nx (f + 1) st a = if (dfsL (dfs nx f) (upd st a 1) l).1 = true then (true, upd (dfsL (dfs nx f) (upd st a 1) l).2 a 2) else (false, (dfsL (dfs nx f) (upd st a 1) l).2)) := Lib.hid (by rw [← hl]; show (if 0 < st a then _ else _) = _; rw [if_neg h0])
   have HLK := Lib.hid hlk
   have HROW := Lib.hid hrow
   have HRNG := Lib.hid hrng
   have IH := Lib.hid ih
   have HW := Lib.hid hw
   have HR := Lib.hid hR
   have h00z : ¬ ((0 : Int) < ((0 : Nat) : Int)) := by omega
   clear ih hw hl hlk hrow hrng hR h0 h00 G
   go_enter Tryz.func89, Tryz.ntmps89
   go_upto_region 4 with (first
    | (at_lookup; refine xP _ rfl _ _ 78 rfl _ _ _ rfl rfl hrun8 ?_)
    | (at_mapUpdate; refine wpList_mapUpdate_own _ rfl _ _ _ 78 rfl 3 3 oJ Tryz.underlying78 _ ms nn _ rfl hown (by unfold maxLen; omega) _ _ _ rfl rfl (oK ha) _ [] (plainElem_int Tryz.underlying3 (wfI (v := 1) (by omega))) ?_; intro w1 hown1 hgrow1)
    | go_in)
   have hg1 := hg.trans hgrow1
   have d5 := hg1.cell GR.out.h5 (by intro e; injection e with e; exact GR.out.nt e)
   have hrun5 := HLK.out w1 (hg1.block mt GR.out.lm (by intro e; injection e with e; exact GR.out.nm e))
   have AT1 : Hid (At w0 ms (M - 1) (upd st a 1) w1) := Lib.hid ⟨hg1, fun i => by unfold upd; split; omega; exact h2 i, nn + 1, _, hown1, HR.out.upd hown.isMap a 1, by omega⟩
   have HW1 : Hid (whites 64 (upd st a 1) < f) := Lib.hid (by have := HW.out; omega)
   obtain ⟨st1, hst1⟩ : ∃ s, upd st a 1 = s := ⟨_, rfl⟩
   rw [hst1] at DF AT1 HW1 hwu
   clear hst1 hown1 hgrow1 hown hrun8 hg hMw h2 HR
   go_wp2_with (first | (at_lookup; refine xP _ rfl _ _ 112 rfl _ _ _ rfl rfl hrun5 ?_) | go_in)
   go_loopw [22] (fun i wr => ∃ (k : Nat) (stk : St), k ≤ l.length ∧ i = .int .i64 k ∧ At w0 ms (M - 1) stk wr ∧ whites 64 stk ≤ whites 64 st1 ∧ dfsL (dfs nx f) stk (l.drop k) = dfsL (dfs nx f) st1 l) (fun i _ => l.length - (intOf i).toNat)
   case atStart => exact ⟨0, st1, by omega, rfl, AT1.out, Nat.le_refl _, rfl⟩
   case round =>
    obtain ⟨k, stk, hk, rfl, hAtk, hwk, hL⟩ := hrel
    have hgk := hAtk.1
    have c9 := hgk.cell GR.out.h9 (by intro e; injection e with e; exact GR.out.nc e)
    have c8k := hgk.cell GR.out.h8 (by intro e; injection e with e; exact GR.out.ns e)
    have ATK := Lib.hid hAtk
    have HL := Lib.hid hL
    clear hL hAtk d5 hrun5
    by_cases hlt : k < l.length
    ·obtain ⟨b, off, rfl, hbm, hcl⟩ := HROW.out.resolve_left (by intro h; rw [h] at hlt; simp at hlt)
     obtain ⟨y, hy⟩ : ∃ y, l.getD k 0 = y := ⟨_, rfl⟩
     have cy : wr.cell? ⟨b, off + k, none⟩ = some (.int .i64 (y : Int)) := by rw [← hy]; exact hgk.cell (hcl k hlt) (by intro e; injection e with e; exact hbm e)
     have hy64 : y < 64 := HRNG.out y (by rw [← hy, List.getD_eq_getElem?_getD, List.getElem?_eq_getElem hlt]; exact List.getElem_mem hlt)
     have HD : Hid (dfsL (dfs nx f) stk (l.drop k) = if (dfs nx f stk y).1 = true then dfsL (dfs nx f) (dfs nx f stk y).2 (l.drop (k + 1)) else (false, (dfs nx f stk y).2)) := Lib.hid (by rw [lS _ _ _ hlt, hy])
     have ctr := Lib.hid (IH.out stk y wr (M - 1) hy64 (by have := HW1.out; omega) ATK.out (by omega))
     obtain ⟨⟨r, stn⟩, hr⟩ : ∃ r, dfs nx f stk y = r := ⟨_, rfl⟩
     rw [hr] at ctr HD
     clear hr hy hcl
     cases r with
     | true =>
      go_wp2_with (go_at_call 89; refine ctr.out.mono ?_; rintro o w2 ⟨rfl, hAt2, hw2⟩)
      go_roundw
      case rel => first | exact ⟨k + 1, stn, by omega, by go_num, hAt2, Nat.le_trans hw2 hwk, by rw [← HL.out, HD.out]; rfl⟩ | ((repeat apply Exists.intro); exact ⟨⟨k + 1, stn, by omega, by go_num, hAt2, Nat.le_trans hw2 hwk, by rw [← HL.out, HD.out]; rfl⟩, rfl⟩)
      case measure => simp [intOf]; omega
     | false =>
      have FD : Hid (dfs nx (f + 1) st a = (false, stn)) := Lib.hid (by rw [DF.out, ← HL.out, HD.out]; rfl)
      go_wp2_with (go_at_call 89; refine ctr.out.mono ?_; rintro o w2 ⟨rfl, hAt2, hw2⟩)
      go_ret
      obtain ⟨x1, x2, nn2, D2, x3, x4, x5⟩ := hAt2
      refine ⟨by rw [FD.out]; rfl, by rw [FD.out]; exact ⟨x1, x2, nn2, D2, x3, x4, by dsimp only at x5 ⊢; omega⟩, by rw [FD.out]; dsimp only at hw2 ⊢; omega⟩
    ·have hke : k = l.length := by omega
     have HE : Hid (dfsL (dfs nx f) st1 l = (true, stk)) := Lib.hid (by rw [← HL.out, hke, List.drop_length]; rfl)
     have FD : Hid (dfs nx (f + 1) st a = (true, upd stk a 2)) := Lib.hid (by rw [DF.out, HE.out]; rfl)
     obtain ⟨_, x2, nn2, D2, x3, x4, x5⟩ := ATK.out
     have hnl : ¬ ((k : Int) < (l.length : Int)) := by omega
     go_wp2_with (first
      | (at_mapUpdate; refine wpList_mapUpdate_own _ rfl _ _ _ 78 rfl 3 3 oJ Tryz.underlying78 _ ms nn2 _ rfl x3 (by unfold maxLen; omega) _ _ _ rfl rfl (oK ha) _ [] (plainElem_int Tryz.underlying3 (wfI (v := 2) (by omega))) ?_; intro w3 hown3 hgrow3)
      | go_in)
     go_ret
     have hwz := zN a 2 stk (by omega) 64
     refine ⟨by rw [FD.out]; rfl, by rw [FD.out]; exact ⟨hgk.trans hgrow3, fun i => by show upd stk a 2 i ≤ 2; unfold upd; split; omega; exact x2 i, nn2 + 1, _, hown3, x4.upd x3.isMap a 2, by show nn2 + 1 + 2 * whites 64 (upd stk a 2) ≤ M; omega⟩, by rw [FD.out]; show whites 64 (upd stk a 2) ≤ _; omega⟩
open Go.RowKit Go.Maps
open Go.WideElems (Fit rd rg pl rd_key)
theorem gL {α β : Type} (f : α → β) : ∀ (l : List α), (l.map f).Pairwise (fun p q => p ≠ q) → ∀ x ∈ l, ∀ y ∈ l, f x = f y → x = y
 | [], _, x, hx, _, _, _ => by simp at hx
 | z :: r, h, x, hx, y, hy, e => by
  rw [List.map_cons, List.pairwise_cons] at h
  rcases List.mem_cons.1 hx with rfl | hx2
  ·rcases List.mem_cons.1 hy with rfl | hy
   ·rfl
   ·exact absurd e (h.1 _ (List.mem_map_of_mem hy))
  ·rcases List.mem_cons.1 hy with hy | hy
   ·subst hy; exact absurd e.symm (h.1 _ (List.mem_map_of_mem hx2))
   ·exact gL f r h.2 x hx2 y hy e
theorem fF {H : Type} {P : Program} {t k E : TypeId} {w w' : World} {b : Nat} {es : Array MapEntry} {clock : Nat} {R : Value → Option (DataW H × List MemPlace)} {key z v : Value} {kl : Lit} (K : Keyed P k) (ht : P.underlying t = some (.map k E))
  (hz : ∀ w, (zeroValue E).run P w = .ok z w) (hb : w.heap[b]? = some (.map es clock)) (hb' : w'.heap[b]? = some (.map es clock)) (F : Fit P k R es clock) (hkey : keyOf P k key = some kl)
  (hrun : (Instr.lookup t (.map (some b)) key false).run P w = .ok v w) : (Instr.lookup t (.map (some b)) key false).run P w' = .ok v w' := by
 rcases Maps.fit_look false K ht (hz w) hb F hkey with ⟨h1, h2, _⟩ | ⟨e0, y0, hm0, hk0, h1, hR0, hat0, _⟩
 ·rcases Maps.fit_look false K ht (hz w') hb' F hkey with ⟨g1, _, _⟩ | ⟨e1, y1, hm1, hk1, g1, _⟩
  ·rw [hrun] at h1
   simp only [Bool.false_eq_true, if_false] at h1 g1
   injection h1 with h1 _
   rw [g1, h1]
  ·exact absurd hk1 (h2 e1 hm1)
 ·rcases Maps.fit_look false K ht (hz w') hb' F hkey with ⟨_, g2, _⟩ | ⟨e1, y1, hm1, hk1, g1, hR1, hat1, _⟩
  ·exact absurd hk0 (g2 e0 hm0)
  ·have ap := fit_apart K F
   have hpair : (es.toList.map fun x => (rg P k R x).1).Pairwise (fun p q => p ≠ q) := by
    rw [List.pairwise_map] at ap ⊢
    exact ap
   have he : e0 = e1 := by
    refine gL _ _ hpair e0 hm0 e1 hm1 ?_
    obtain ⟨u0, hu0⟩ := F.reads e0 hm0
    obtain ⟨u1, hu1⟩ := F.reads e1 hm1
    have k0 := rd_key hu0
    have k1 := rd_key hu1
    rw [hk0, hkey] at k0
    rw [hk1, hkey] at k1
    show (rg P k R e0).1 = (rg P k R e1).1
    unfold rg
    rw [hu0, hu1]
    injection k0 with k0
    injection k1 with k1
    show u0.1 = u1.1
    rw [← k0, ← k1]
   rw [hrun] at h1
   simp only [Bool.false_eq_true, if_false] at h1 g1
   injection h1 with h1 _
   rw [g1, h1, he]
end Go.Proofs.YtnkocjkkefnelaaGreat
