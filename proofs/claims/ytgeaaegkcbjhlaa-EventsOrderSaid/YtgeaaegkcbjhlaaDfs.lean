/- Acyclic's own search: what it computes, as a function. -/
import Derived.Test.YtgeaaegkcbjhlaaCont
import Derived.Test.YtgeaaegkcbjhlaaAddr
import Derived.Maps.OwnRows
namespace Go.Proofs.Ytgeaaegkcbjhlaa
open Go.RowKit Go.Maps

abbrev St := Nat → Nat
def upd (st : St) (a v : Nat) : St := fun i => if i = a then v else st i
def dfsL (f : St → Nat → Bool × St) : St → List Nat → Bool × St
  | st, [] => (true, st)
  | st, b :: r => if (f st b).1 = true then dfsL f (f st b).2 r else (false, (f st b).2)
def dfs (nx : Nat → List Nat) : Nat → St → Nat → Bool × St
  | 0, st, _ => (false, st)
  | n + 1, st, a =>
    if 0 < st a then (st a == 2, st) else
      if (dfsL (dfs nx n) (upd st a 1) (nx a)).1 = true then (true, upd (dfsL (dfs nx n) (upd st a 1) (nx a)).2 a 2) else (false, (dfsL (dfs nx n) (upd st a 1) (nx a)).2)
/-- how many places are untouched -/
def whites : Nat → St → Nat
  | 0, _ => 0
  | n + 1, st => whites n st + (if st n = 0 then 1 else 0)
theorem whites_upd_le (a v : Nat) (st : St) (hv : v ≠ 0) : ∀ n, whites n (upd st a v) ≤ whites n st
  | 0 => Nat.le_refl _
  | n + 1 => by
    have := whites_upd_le a v st hv n
    unfold whites upd
    unfold upd at this
    by_cases h : n = a
    · rw [if_pos h, if_neg hv]; omega
    · rw [if_neg h]; omega
theorem whites_upd_lt (a v : Nat) (st : St) (hv : v ≠ 0) (h0 : st a = 0) : ∀ n, a < n → whites n (upd st a v) + 1 ≤ whites n st
  | 0, h => by omega
  | n + 1, h => by
    unfold whites
    by_cases hn : n = a
    · have := whites_upd_le a v st hv n
      have e1 : upd st a v n = v := by unfold upd; rw [if_pos hn]
      rw [e1, if_neg hv, hn, h0]
      rw [hn] at this
      simp
      omega
    · have := whites_upd_lt a v st hv h0 n (by omega)
      have e1 : upd st a v n = st n := by unfold upd; rw [if_neg hn]
      rw [e1]; omega

/-- the states' map reads so -/
def Reads (D : DataW Unit) (st : St) : Prop := ∀ i : Nat, i < 64 → D.atKey (.int .i64 (i : Int)) (.lit (.int .i64 0)) = .lit (.int .i64 (st i : Int))
theorem Reads.upd {D : DataW Unit} {st : St} (h : Reads D st) (hm : IsMap D) (a v : Nat) : Reads (D.put (.int .i64 (a : Int)) (.lit (.int .i64 (v : Int)))) (upd st a v) := by
  intro i hi
  unfold Go.Proofs.Ytgeaaegkcbjhlaa.upd
  by_cases he : i = a
  · subst he
    rw [if_pos rfl]
    exact atKey_put_same hm (show WideAt.IsKeyLit (Lit.int .i64 (i : Int)) from trivial) _ _
  · rw [if_neg he, atKey_put_other (by intro e; injection e with _ e2; omega)]
    exact h i hi
theorem lawI : Keyed Try.prog 3 := int_keyed Try.underlying3
theorem keyI {i : Nat} (h : i < 64) : keyOf Try.prog 3 (.int .i64 (i : Int)) = some (.int .i64 (i : Int)) := keyOf_int_mk Try.underlying3 (by
  simp only [Lit.wf, Bool.and_eq_true, decide_eq_true_eq]
  have e1 : IntKind.i64.min = -9223372036854775808 := by decide
  have e2 : IntKind.i64.max = 9223372036854775807 := by decide
  omega)
theorem wfI {v : Nat} (h : v ≤ 2) : (Lit.int .i64 (v : Int)).wf = true := by
  simp only [Lit.wf, Bool.and_eq_true, decide_eq_true_eq]
  have e1 : IntKind.i64.min = -9223372036854775808 := by decide
  have e2 : IntKind.i64.max = 9223372036854775807 := by decide
  omega

/-- a look-up by its own run -/
theorem wpList_lookup_run {P : Program} (w : World) {ops : Array Oper} {rest : List Oper} {o : Oper} {a : Act} {Q : Exit → Act → World → Prop}
    (hg : o.guard = none) (m x : Operand) (t : TypeId) (hop : o.op = Op.lookup t m x false) (mv key v : Value) (hm : a.eval m = mv) (hx : a.eval x = key) (hrun : (Instr.lookup t mv key false).run P w = .ok v w)
    (hK : wpList P ops Q rest (a.put o.dst v) w) : wpList P ops Q (o :: rest) a w := by
  refine wpList_plain hg fun K' hK' => ?_
  unfold Oper.wp
  simp [execOp, hop, hm, hx, hrun, Result.andThen]
  exact hK' _ _ hK

/-- what the search leans on, and does not turn -/
structure Ground (nx : Nat → List Nat) (w0 : World) (Bs Bt Bc ms mt : Nat) : Prop where
  h8 : w0.cell? ⟨Bs, 0, none⟩ = some (.map (some ms))
  h5 : w0.cell? ⟨Bt, 0, none⟩ = some (.map (some mt))
  h9 : w0.cell? ⟨Bc, 0, none⟩ = some (.func (.func 36) #[] #[.pointer (some ⟨Bs, 0, none⟩), .pointer (some ⟨Bt, 0, none⟩), .pointer (some ⟨Bc, 0, none⟩)])
  ns : Bs ≠ ms
  nt : Bt ≠ ms
  nc : Bc ≠ ms
  nm : mt ≠ ms
  lm : mt < w0.heap.size
  rng : ∀ a : Nat, a < 64 → ∀ b ∈ nx a, b < 64
  len : ∀ a : Nat, (nx a).length ≤ 1152921504606846976
  adj : ∀ a : Nat, a < 64 → ∃ s : Sl, (∀ w' : World, w'.heap[mt]? = w0.heap[mt]? → (Instr.lookup 57 (.map (some mt)) (.int .i64 (a : Int)) false).run Try.prog w' = .ok (.slice s.a s.n s.c) w') ∧ s.n = (nx a).length ∧
    (nx a = [] ∨ ∃ b off, s.a = some ⟨b, off, none⟩ ∧ b ≠ ms ∧ ∀ k, k < (nx a).length → w0.cell? ⟨b, off + k, none⟩ = some (.int .i64 ((nx a).getD k 0 : Int)))

/-- how the search's world stands nx the one it began in -/
def At (w0 : World) (ms : Nat) (M : Nat) (st : St) (w : World) : Prop :=
  w0.grownBy w (some ms) ∧ (∀ i, st i ≤ 2) ∧ ∃ (nn : Nat) (D : DataW Unit), w.ownsMap Try.prog 3 (plainElem Try.prog 3) ms nn D ∧ Reads D st ∧ nn + 2 * whites 64 st ≤ M
theorem dfsL_drop (F : St → Nat → Bool × St) (st : St) (l : List Nat) {k : Nat} (hk : k < l.length) : dfsL F st (l.drop k) = if (F st (l.getD k 0)).1 = true then dfsL F (F st (l.getD k 0)).2 (l.drop (k + 1)) else (false, (F st (l.getD k 0)).2) := by
  rw [List.drop_eq_getElem_cons hk, List.getD_eq_getElem?_getD, List.getElem?_eq_getElem hk]
  rfl
theorem look8 {w : World} {ms nn : Nat} {D : DataW Unit} {st : St} (hown : w.ownsMap Try.prog 3 (plainElem Try.prog 3) ms nn D) (hR : Reads D st) {a : Nat} (ha : a < 64) :
    (Instr.lookup 58 (.map (some ms)) (.int .i64 (a : Int)) false).run Try.prog w = .ok (.int .i64 (st a : Int)) w := by
  obtain ⟨c, hrun, hat, _⟩ := hown.lookup_int lawI Try.underlying58 Try.underlying3 (zeroI _) (keyI ha)
  rw [hR a ha] at hat
  simp only [DataW.lit.injEq, Lit.int.injEq, true_and] at hat
  rw [hat]; exact hrun

set_option maxRecDepth 100000 in
set_option maxHeartbeats 2000000 in
theorem dfs_c (nx : Nat → List Nat) (w0 : World) (Bs Bt Bc ms mt : Nat) (G : Ground nx w0 Bs Bt Bc ms mt) : ∀ (f : Nat) (st : St) (a : Nat) (w : World) (M : Nat), a < 64 → whites 64 st < f → At w0 ms M st w → M ≤ 1000 →
    Calls Try.prog 36 #[.int .i64 (a : Int), .pointer (some ⟨Bs, 0, none⟩), .pointer (some ⟨Bt, 0, none⟩), .pointer (some ⟨Bc, 0, none⟩)] w fun e w' => e = .returned (.bool (dfs nx f st a).1) ∧ At w0 ms M (dfs nx f st a).2 w' ∧ whites 64 (dfs nx f st a).2 ≤ whites 64 st := by
  intro f
  induction f with
  | zero => intro st a w M _ h; exact absurd h (Nat.not_lt_zero _)
  | succ f ih =>
    intro st a w M ha hw hAt hM
    have AT := Lib.hid hAt
    obtain ⟨hg, h2, nn, D, hown, hR, hMw⟩ := hAt
    have hrun8 := look8 hown hR ha
    have c8 := hg.cell G.h8 (by intro e; injection e with e; exact G.ns e)
    have GR := Lib.hid G
    by_cases h0 : 0 < st a
    · have hd : dfs nx (f + 1) st a = (st a == 2, st) := by unfold dfs; rw [if_pos h0]
      rw [hd]
      obtain ⟨v, hv⟩ : ∃ v, st a = v := ⟨_, rfl⟩
      rw [hv] at hrun8 h0 ⊢
      have h0z : (0 : Int) < (v : Int) := by omega
      have e1 : ((v : Int) == 2) = (v == 2) := by
        by_cases h : v = 2
        · subst h; rfl
        · rw [beq_eq_false_iff_ne.2 h, beq_eq_false_iff_ne.2 (by omega)]
      have E1 := Lib.hid e1
      clear e1 hv hd ih hown hR hg G
      go_enter Try.func36, Try.ntmps36
      go_wp2_with (first | (at_lookup; refine wpList_lookup_run _ rfl _ _ 58 rfl _ _ _ rfl rfl hrun8 ?_) | go_in)
      go_ret
      exact ⟨by first | (rw [← E1.out]; rfl) | (rw [← E1.out]), AT.out, Nat.le_refl _⟩
    · have h00 : st a = 0 := by omega
      rw [h00] at hrun8
      have hwu := whites_upd_lt a 1 st (by omega) h00 64 ha
      have hM1 : 1 ≤ M := by omega
      obtain ⟨l, hl⟩ : ∃ l, nx a = l := ⟨_, rfl⟩
      obtain ⟨⟨va, vn, vc⟩, hlk, hvn, hrow⟩ := G.adj a ha
      dsimp only at hlk hvn hrow
      rw [hl] at hvn hrow
      subst hvn
      have hlen := G.len a
      have hrng := G.rng a ha
      rw [hl] at hlen hrng
      have DF : Hid (dfs nx (f + 1) st a = if (dfsL (dfs nx f) (upd st a 1) l).1 = true then (true, upd (dfsL (dfs nx f) (upd st a 1) l).2 a 2) else (false, (dfsL (dfs nx f) (upd st a 1) l).2)) := Lib.hid (by rw [← hl]; show (if 0 < st a then _ else _) = _; rw [if_neg h0])
      have HLK := Lib.hid hlk
      have HROW := Lib.hid hrow
      have HRNG := Lib.hid hrng
      have IH := Lib.hid ih
      have HW := Lib.hid hw
      have HR := Lib.hid hR
      have h00z : ¬ ((0 : Int) < ((0 : Nat) : Int)) := by omega
      clear ih hw hl hlk hrow hrng hR h0 h00 G
      go_enter Try.func36, Try.ntmps36
      go_upto_region 4 with (first
        | (at_lookup; refine wpList_lookup_run _ rfl _ _ 58 rfl _ _ _ rfl rfl hrun8 ?_)
        | (at_mapUpdate; refine wpList_mapUpdate_own _ rfl _ _ _ 58 rfl 3 3 lawI Try.underlying58 _ ms nn _ rfl hown (by unfold maxLen; omega) _ _ _ rfl rfl (keyI ha) _ [] (plainElem_int Try.underlying3 (wfI (v := 1) (by omega))) ?_; intro w1 hown1 hgrow1)
        | go_in)
      have hg1 := hg.trans hgrow1
      have d5 := hg1.cell GR.out.h5 (by intro e; injection e with e; exact GR.out.nt e)
      have hrun5 := HLK.out w1 (hg1.block mt GR.out.lm (by intro e; injection e with e; exact GR.out.nm e))
      have AT1 : Hid (At w0 ms (M - 1) (upd st a 1) w1) := Lib.hid ⟨hg1, fun i => by unfold upd; split; omega; exact h2 i, nn + 1, _, hown1, HR.out.upd hown.isMap a 1, by omega⟩
      have HW1 : Hid (whites 64 (upd st a 1) < f) := Lib.hid (by have := HW.out; omega)
      obtain ⟨st1, hst1⟩ : ∃ s, upd st a 1 = s := ⟨_, rfl⟩
      rw [hst1] at DF AT1 HW1 hwu
      clear hst1 hown1 hgrow1 hown hrun8 hg hMw h2 HR
      go_wp2_with (first | (at_lookup; refine wpList_lookup_run _ rfl _ _ 57 rfl _ _ _ rfl rfl hrun5 ?_) | go_in)
      go_loopw [22] (fun i wr => ∃ (k : Nat) (stk : St), k ≤ l.length ∧ i = .int .i64 k ∧ At w0 ms (M - 1) stk wr ∧ whites 64 stk ≤ whites 64 st1 ∧ dfsL (dfs nx f) stk (l.drop k) = dfsL (dfs nx f) st1 l) (fun i _ => l.length - (intOf i).toNat)
      case atStart => exact ⟨0, st1, by omega, rfl, AT1.out, Nat.le_refl _, rfl⟩
      case round =>
        obtain ⟨k, stk, hk, rfl, hAtk, hwk, hL⟩ := hrel
        have hgk := hAtk.1
        have c9 := hgk.cell GR.out.h9 (by intro e; injection e with e; exact GR.out.nc e)
        have c8k := hgk.cell GR.out.h8 (by intro e; injection e with e; exact GR.out.ns e)
        have ATK := Lib.hid hAtk
        have HL := Lib.hid hL
        clear hL hAtk d5 hrun5
        by_cases hlt : k < l.length
        · obtain ⟨b, off, rfl, hbm, hcl⟩ := HROW.out.resolve_left (by intro h; rw [h] at hlt; simp at hlt)
          obtain ⟨y, hy⟩ : ∃ y, l.getD k 0 = y := ⟨_, rfl⟩
          have cy : wr.cell? ⟨b, off + k, none⟩ = some (.int .i64 (y : Int)) := by rw [← hy]; exact hgk.cell (hcl k hlt) (by intro e; injection e with e; exact hbm e)
          have hy64 : y < 64 := HRNG.out y (by rw [← hy, List.getD_eq_getElem?_getD, List.getElem?_eq_getElem hlt]; exact List.getElem_mem hlt)
          have HD : Hid (dfsL (dfs nx f) stk (l.drop k) = if (dfs nx f stk y).1 = true then dfsL (dfs nx f) (dfs nx f stk y).2 (l.drop (k + 1)) else (false, (dfs nx f stk y).2)) := Lib.hid (by rw [dfsL_drop _ _ _ hlt, hy])
          have ctr := Lib.hid (IH.out stk y wr (M - 1) hy64 (by have := HW1.out; omega) ATK.out (by omega))
          obtain ⟨⟨r, stn⟩, hr⟩ : ∃ r, dfs nx f stk y = r := ⟨_, rfl⟩
          rw [hr] at ctr HD
          clear hr hy hcl
          cases r with
          | true =>
            go_wp2_with (go_at_call 36; refine ctr.out.mono ?_; rintro o w2 ⟨rfl, hAt2, hw2⟩)
            go_roundw
            case rel => first | exact ⟨k + 1, stn, by omega, by go_num, hAt2, Nat.le_trans hw2 hwk, by rw [← HL.out, HD.out]; rfl⟩ | ((repeat apply Exists.intro); exact ⟨⟨k + 1, stn, by omega, by go_num, hAt2, Nat.le_trans hw2 hwk, by rw [← HL.out, HD.out]; rfl⟩, rfl⟩)
            case measure => simp [intOf]; omega
          | false =>
            have FD : Hid (dfs nx (f + 1) st a = (false, stn)) := Lib.hid (by rw [DF.out, ← HL.out, HD.out]; rfl)
            go_wp2_with (go_at_call 36; refine ctr.out.mono ?_; rintro o w2 ⟨rfl, hAt2, hw2⟩)
            go_ret
            obtain ⟨x1, x2, nn2, D2, x3, x4, x5⟩ := hAt2
            refine ⟨by rw [FD.out]; rfl, by rw [FD.out]; exact ⟨x1, x2, nn2, D2, x3, x4, by dsimp only at x5 ⊢; omega⟩, by rw [FD.out]; dsimp only at hw2 ⊢; omega⟩
        · have hke : k = l.length := by omega
          have HE : Hid (dfsL (dfs nx f) st1 l = (true, stk)) := Lib.hid (by rw [← HL.out, hke, List.drop_length]; rfl)
          have FD : Hid (dfs nx (f + 1) st a = (true, upd stk a 2)) := Lib.hid (by rw [DF.out, HE.out]; rfl)
          obtain ⟨_, x2, nn2, D2, x3, x4, x5⟩ := ATK.out
          have hnl : ¬ ((k : Int) < (l.length : Int)) := by omega
          go_wp2_with (first
            | (at_mapUpdate; refine wpList_mapUpdate_own _ rfl _ _ _ 58 rfl 3 3 lawI Try.underlying58 _ ms nn2 _ rfl x3 (by unfold maxLen; omega) _ _ _ rfl rfl (keyI ha) _ [] (plainElem_int Try.underlying3 (wfI (v := 2) (by omega))) ?_; intro w3 hown3 hgrow3)
            | go_in)
          go_ret
          have hwz := whites_upd_le a 2 stk (by omega) 64
          refine ⟨by rw [FD.out]; rfl, by rw [FD.out]; exact ⟨hgk.trans hgrow3, fun i => by show upd stk a 2 i ≤ 2; unfold upd; split; omega; exact x2 i, nn2 + 1, _, hown3, x4.upd x3.isMap a 2, by show nn2 + 1 + 2 * whites 64 (upd stk a 2) ≤ M; omega⟩, by rw [FD.out]; show whites 64 (upd stk a 2) ≤ _; omega⟩
end Go.Proofs.Ytgeaaegkcbjhlaa
