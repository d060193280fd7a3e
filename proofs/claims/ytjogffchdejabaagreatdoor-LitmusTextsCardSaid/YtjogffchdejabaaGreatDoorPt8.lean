/- Parts. -/
import Derived.Test.YtjogffchdejabaaGreatDoorRows
import Derived.WalkKit
import Derived.WalkSpells
import Derived.WalkLawsBesides
import Derived.Deep.QuietTactic
import Derived.BigQuiet
import Derived.ProofKit
import Derived.Lib.Hide
import Derived.Deep.DeepCutAuto
import Derived.Lib.SmallJoins
import Derived.WideKeyArgs
import Derived.Deep.SlicePairs
import Derived.SizedLaws
import Derived.OpenShut
import Derived.OwnWalk
import Derived.Lib.AppendZerosOnto
import Derived.Lib.SliceRun
import Derived.Test.YtjogffchdejabaaGreatDoorPt3
import Derived.Test.YtjogffchdejabaaGreatDoorPt4
import Derived.Test.YtjogffchdejabaaGreatDoorPt6
import Derived.Test.YtjogffchdejabaaGreatDoorPt7
set_option linter.unusedVariables false
set_option linter.unusedSimpArgs false
set_option maxHeartbeats 4000000
set_option maxRecDepth 100000
namespace Go.Proofs.YtjogffchdejabaaGreatDoor
open Go.RowKit Go.Lib
theorem xP (c : UInt8) : ∀ (ws vs : List Bt), ws ≠ [] → joinC c (ws ++ vs) = joinC c ws ++ (vs.map (c :: ·)).flatten
 | [], _, h => absurd rfl h
 | [w], [], _ => by simp [joinC]
 | [w], v :: vs, _ => by
  have ih := xP c [v] vs (by simp)
  rw [List.cons_append, List.nil_append] at ih
  show w ++ c :: joinC c (v :: vs) = _
  rw [ih]
  simp [joinC]
 | w :: u :: ws, vs, _ => by
  have ih := xP c (u :: ws) vs (by simp)
  rw [List.cons_append] at ih
  rw [List.cons_append, List.cons_append, joinC, ih, joinC]
  simp
def sufB (b : Int) (a r : Bool) : Bt := (if 0 < b then [32, 98, 121, 32] ++ regW b else []) ++ (if a then [32, 97, 113] else []) ++ (if r then [32, 114, 108] else [])
theorem bG (b : Int) (a r : Bool) : ((tailW b a r).map ((32 : UInt8) :: ·)).flatten = sufB b a r := by
 unfold tailW sufB
 by_cases h : 0 < b <;> cases a <;> cases r <;> simp [h, wBy, wAq, wRl]
def headB (s : Stp) : Bt :=
 if s.kind = 5 then [102, 101, 110, 99, 101, 32] ++ setW s.pred ++ [32] ++ setW s.succ
 else if s.kind = 6 then [105, 102, 32] ++ regW s.reg
 else if s.kind = 1 then regW s.reg ++ [32, 61, 32] ++ nameW s.var
 else if s.kind = 2 then nameW s.var ++ [32, 61, 32] ++ valW s.data s.num
 else if s.kind = 3 then regW s.reg ++ [32, 61, 32, 115, 119, 97, 112, 32] ++ nameW s.var ++ [32] ++ valW s.data s.num
 else regW s.reg ++ [32, 61, 32, 97, 100, 100, 32] ++ nameW s.var ++ [32] ++ valW s.data s.num
theorem lU {s : Stp} (h : s.right = true) : lineB s = headB s ++ sufB s.byr s.aq s.rl := by
 cases zJ h with
 | fence p q hp hq => simp [lineB, wordsOf, headB, joinC, sufB, wFence]
 | cond n hn => simp [lineB, wordsOf, headB, joinC, sufB, wIf]
 | load r v b a l hr hv hb =>
  show joinC 32 ([regW r, wEq, nameW v] ++ tailW b a l) = (regW r ++ [32, 61, 32] ++ nameW v) ++ sufB b a l
  rw [xP 32 _ _ (by simp), bG]
  simp [joinC, wEq]
 | store v n d b a l hv hb hd h0 =>
  show joinC 32 ([nameW v, wEq, valW d n] ++ tailW b a l) = (nameW v ++ [32, 61, 32] ++ valW d n) ++ sufB b a l
  rw [xP 32 _ _ (by simp), bG]
  simp [joinC, wEq]
 | both k r v n d b a l hk hr hv hb hd h0 =>
  rcases hk with rfl | rfl
  ·show joinC 32 ([regW r, wEq, wSwap, nameW v, valW d n] ++ tailW b a l) = (regW r ++ [32, 61, 32, 115, 119, 97, 112, 32] ++ nameW v ++ [32] ++ valW d n) ++ sufB b a l
   rw [xP 32 _ _ (by simp), bG]
   simp [joinC, wEq, wSwap]
  ·show joinC 32 ([regW r, wEq, wAdd, nameW v, valW d n] ++ tailW b a l) = (regW r ++ [32, 61, 32, 97, 100, 100, 32] ++ nameW v ++ [32] ++ valW d n) ++ sufB b a l
   rw [xP 32 _ _ (by simp), bG]
   simp [joinC, wEq, wAdd]
theorem headB_len {s : Stp} (hn : s.n32) : (headB s).length ≤ 60 := by
 have l1 := vH s.reg
 have l2 := wB s.var
 have l3 := xE (d := s.data) hn
 have l4 := yL s.pred
 have l5 := yL s.succ
 unfold headB
 (repeat' split) <;> simp only [List.length_append, List.length_cons, List.length_nil] <;> omega
def headFs (s : Stp) : List (Value × TV) := [(.int .i64 1, .fn 129 [] [.pt (stTV s) 0]), (.int .i64 2, .fn 131 [] [.pt (stTV s) 0, .pt [strTV (valW s.data s.num)] 0]), (.int .i64 3, .fn 132 [] [.pt (stTV s) 0, .pt [strTV (valW s.data s.num)] 0]),
 (.int .i64 4, .fn 133 [] [.pt (stTV s) 0, .pt [strTV (valW s.data s.num)] 0]), (.int .i64 5, .fn 134 [] [.pt setsTV 0, .pt (stTV s) 0]), (.int .i64 6, .fn 135 [] [.pt (stTV s) 0])]
def sufN (b : Bt) (a r : Bool) : Nat → Bt
 | 0 => b
 | 1 => b ++ (if a then [32, 97, 113] else [])
 | _ => b ++ (if a then [32, 97, 113] else []) ++ (if r then [32, 114, 108] else [])
set_option maxHeartbeats 1000000 in
theorem sets_p : Pure E.P 81 [] (.ag (setsTV.map .d)) := by
 refine FnW.toR ?_
 refine bB (vs := [.cell 0 134]) Tryz.func81 (by decide) rfl Tryz.ntmps81 (Nat.le_of_ble_eq_true rfl) rfl ?_
 refine run ?_; refine aoR fun _ => ?_
 refine run ?_; refine aoR fun _ => ?_
 refine run ?_; rotate_left
 exact oG rfl rfl rfl rfl rfl rfl
set_option maxHeartbeats 4000000 in
theorem line_p (hF : ∀ n : Int, 0 ≤ n → n ≤ 18446744073709551615 → Pure E.P 127 [.int .u64 n, .int .i64 10] (.bs (decDigits n.toNat))) (s : Stp) (hr : s.right = true) (hn : s.n32) : Pure E.P 67 [stOV s] (.bs (lineB s)) := by
 have f1 : Frozen 1 := ⟨trivial⟩
 have hs := zJ hr
 have hd : 0 ≤ s.data ∧ s.data ≤ 4 := by cases hs <;> simp <;> omega
 have hby : 0 ≤ s.byr ∧ s.byr ≤ 4 := by cases hs <;> simp <;> omega
 have ln := mH s.num.toNat (by have := hn.2; omega)
 have lv := xE (d := s.data) hn
 have lr := vH s.byr
 have lh := headB_len hn
 obtain ⟨n0, n1⟩ := hn
 have cF := hF s.num n0 (by omega)
 refine fnA Tryz.func67 Tryz.ntmps67 ?_
 refine uU (X := Unit) (fun _ => tmL [(1, .d (.pt (stTV s) 0))]) (fun _ => stL []) ?_ fun _ => ?_
 ·refine aoR fun _ => ?_
  refine run ?_; rotate_left
  exact wT () leP leP
 refine uU (X := Stamp) (fun v => tmL [(1, .d (.pt (stTV s) 0)), (3, .lo 3 v 1 0 0)]) (fun v => stL [(3, (v, ⟨1, [[.bs (decDigits s.num.toNat)]]⟩))]) ?_ fun v1 => ?_
 ·refine aoR fun _ => ?_
  refine run ?_
  apply mN; exact rfl; exact rfl; exact rfl; exact rfl; exact rfl; omega
  apply uD; exact rfl; exact .fn _ _ _; exact rfl; exact cF
  refine run ?_; rotate_left
  rename_i u
  exact wT (u, 4) leP leP
 refine uU (X := Stamp) (fun v => tmL [(1, .d (.pt (stTV s) 0)), (3, .lo 3 v 1 0 0)]) (fun v => stL [(3, (v, ⟨1, [[.bs (valW s.data s.num)]]⟩))]) ?_ fun v2 => ?_
 ·by_cases h0 : 0 < s.data
  ·have c2 := fU (n := s.data) ⟨by omega, hd.2⟩
   refine run ?_; refine aoR fun _ => ?_
   refine run ?_; refine cnd ?_ ?_
   refine uB fun _ => ?_; try omega
   refine aoR fun _ => ?_; refine run ?_
   apply uD; exact rfl; exact .fn _ _ _; exact rfl; exact c2
   refine run ?_; rotate_left
   refine uC fun _ => ?_; try omega
   exact wT v1 leP (by repeat' (first | exact vY _ | exact vB _ | refine uV rfl ?_ | refine uP rfl ?_ | (refine uY rfl ?_ ?_; (rw [bF _ h0]; rfl)) | (refine uO rfl ?_ ?_; (rw [bF _ h0]; rfl)) | (refine uN rfl ?_ ?_; (rw [bF _ h0]; rfl))))
   all_goals (exfalso; omega)
  ·have h1 : s.data = 0 := by omega
   refine run ?_; refine aoR fun _ => ?_
   refine run ?_; refine cnd ?_ ?_
   refine uB fun _ => ?_; try omega
   refine uC fun _ => ?_; try omega
   refine run ?_; rotate_left
   all_goals first | exact wT v1 leP (by repeat' (first | exact vY _ | exact vB _ | refine uV rfl ?_ | refine uP rfl ?_ | (refine uY rfl ?_ ?_; (rw [h1]; rfl)) | (refine uO rfl ?_ ?_; (rw [h1]; rfl)) | (refine uN rfl ?_ ?_; (rw [h1]; rfl)))) | (exfalso; omega)
 refine fB 3 v2 1 [[strTV (valW s.data s.num)]] (tmL [(1, .d (.pt (stTV s) 0)), (3, .d (.pt [strTV (valW s.data s.num)] 0))]) (stL []) rfl (by repeat' (first | exact nI | exact iM | refine dP rfl (.same _) ?_ | refine dP rfl (.lo _ _ _ rfl) ?_)) iM ?_
 refine uU (X := Stamp) (fun v => tmL [(1, .d (.pt (stTV s) 0)), (3, .d (.pt [strTV (valW s.data s.num)] 0)), (4, .lo 4 v 4 0 0)]) (fun v => stL [(4, (v, ⟨4, [setsTV.map .d]⟩))]) ?_ fun v3 => ?_
 ·refine aoR fun _ => ?_
  apply uD; exact rfl; exact .fn _ _ _; exact rfl; exact sets_p
  refine run ?_; rotate_left
  rename_i u
  exact wT (u, 1) leP leP
 refine fB 4 v3 4 [setsTV] (tmL [(1, .d (.pt (stTV s) 0)), (3, .d (.pt [strTV (valW s.data s.num)] 0)), (4, .d (.pt setsTV 0))]) (stL []) rfl (by repeat' (first | exact nI | exact iM | refine dP rfl (.same _) ?_ | refine dP rfl (.lo _ _ _ rfl) ?_)) iM ?_
 refine uU (X := Gh × Nat) (fun x => tmL [(1, .d (.pt (stTV s) 0)), (5, .d (.c (.map (some x.2)))), (GS, .gh 0 (fnmY x.1 x.2 (headFs s)))]) (fun v => stL []) ?_ fun x => ?_
 ·refine aoR fun _ => ?_
  refine S_makeF ?_; intro _ _
  refine run ?_
  apply cQ; exact Tryz.underlying188; exact rfl; exact rfl; exact .int Tryz.underlying45; exact rfl; exact rfl; exact rfl; exact rfl; intro _
  refine run ?_
  apply cQ; exact Tryz.underlying188; exact rfl; exact rfl; exact .int Tryz.underlying45; exact rfl; exact rfl; exact rfl; exact rfl; intro _
  refine run ?_
  apply cQ; exact Tryz.underlying188; exact rfl; exact rfl; exact .int Tryz.underlying45; exact rfl; exact rfl; exact rfl; exact rfl; intro _
  refine run ?_
  apply cQ; exact Tryz.underlying188; exact rfl; exact rfl; exact .int Tryz.underlying45; exact rfl; exact rfl; exact rfl; exact rfl; intro _
  refine run ?_
  apply cQ; exact Tryz.underlying188; exact rfl; exact rfl; exact .int Tryz.underlying45; exact rfl; exact rfl; exact rfl; exact rfl; intro _
  refine run ?_
  apply cQ; exact Tryz.underlying188; exact rfl; exact rfl; exact .int Tryz.underlying45; exact rfl; exact rfl; exact rfl; exact rfl; intro _
  refine run ?_; rotate_left
  rename_i b _ _ _ _ _ g
  exact wT (g, b) leP leP
 refine uU (X := Unit) (fun _ => tmL [(1, .d (.pt (stTV s) 0)), (6, .bs (headB s))]) (fun _ => stL []) ?_ fun _ => ?_
 ·cases hs with
  | fence p q hp hq =>
   have c := line5_p p q hp hq
   refine aoR fun _ => ?_; refine run ?_
   apply aQ; exact Tryz.underlying188; exact rfl; exact rfl; exact .int Tryz.underlying45; exact rfl; exact rfl
   apply uD; exact rfl; exact .d _ _ _; exact rfl; exact c
   refine run ?_; rotate_left
   exact wT () leP leP
  | cond n h =>
   have c := line6_p ⟨6, n, 0, 0, 0, 0, false, false, 0, 0⟩ h
   refine aoR fun _ => ?_; refine run ?_
   apply aQ; exact Tryz.underlying188; exact rfl; exact rfl; exact .int Tryz.underlying45; exact rfl; exact rfl
   apply uD; exact rfl; exact .d _ _ _; exact rfl; exact c
   refine run ?_; rotate_left
   exact wT () leP leP
  | load r v b a l h1 h2 h3 =>
   have c := line1_p ⟨1, r, v, 0, 0, b, a, l, 0, 0⟩ h1 h2
   refine aoR fun _ => ?_; refine run ?_
   apply aQ; exact Tryz.underlying188; exact rfl; exact rfl; exact .int Tryz.underlying45; exact rfl; exact rfl
   apply uD; exact rfl; exact .d _ _ _; exact rfl; exact c
   refine run ?_; rotate_left
   exact wT () leP leP
  | store v n d b a l h2 h3 h4 h5 =>
   have c := line2_p ⟨2, 0, v, n, d, b, a, l, 0, 0⟩ _ lv h2
   refine aoR fun _ => ?_; refine run ?_
   apply aQ; exact Tryz.underlying188; exact rfl; exact rfl; exact .int Tryz.underlying45; exact rfl; exact rfl
   apply uD; exact rfl; exact .d _ _ _; exact rfl; exact c
   refine run ?_; rotate_left
   exact wT () leP leP
  | both k r v n d b a l hk h1 h2 h3 h4 h5 =>
   rcases hk with rfl | rfl
   ·have c := line3_p ⟨3, r, v, n, d, b, a, l, 0, 0⟩ _ lv h1 h2
    refine aoR fun _ => ?_; refine run ?_
    apply aQ; exact Tryz.underlying188; exact rfl; exact rfl; exact .int Tryz.underlying45; exact rfl; exact rfl
    apply uD; exact rfl; exact .d _ _ _; exact rfl; exact c
    refine run ?_; rotate_left
    exact wT () leP leP
   ·have c := line4_p ⟨4, r, v, n, d, b, a, l, 0, 0⟩ _ lv h1 h2
    refine aoR fun _ => ?_; refine run ?_
    apply aQ; exact Tryz.underlying188; exact rfl; exact rfl; exact .int Tryz.underlying45; exact rfl; exact rfl
    apply uD; exact rfl; exact .d _ _ _; exact rfl; exact c
    refine run ?_; rotate_left
    exact wT () leP leP
 have hB : (if 0 < s.byr then [32, 98, 121, 32] ++ regW s.byr else []).length ≤ 6 := by split <;> simp [lr]
 refine uU (X := Unit) (fun _ => tmL [(1, .d (.pt (stTV s) 0)), (6, .bs (headB s ++ (if 0 < s.byr then [32, 98, 121, 32] ++ regW s.byr else [])))]) (fun _ => stL []) ?_ fun _ => ?_
 ·by_cases h0 : 0 < s.byr
  ·have c := fU (n := s.byr) ⟨by omega, hby.2⟩
   rw [if_pos h0]
   refine run ?_; refine aoR fun _ => ?_
   refine run ?_; refine cnd ?_ ?_
   refine uB fun _ => ?_; try omega
   refine aoR fun _ => ?_; refine run ?_
   apply uD; exact rfl; exact .fn _ _ _; exact rfl; exact c
   iterate 2 (apply uJ; exact rfl; exact rfl; (((simp only [List.length_append, List.length_cons, List.length_nil]); omega)))
   refine run ?_; rotate_left
   refine uC fun _ => ?_; try omega
   all_goals first | exact wT () leP leP | (exfalso; omega)
  ·rw [if_neg h0, List.append_nil]
   refine run ?_; refine aoR fun _ => ?_
   refine run ?_; refine cnd ?_ ?_
   refine uB fun _ => ?_; try omega
   refine uC fun _ => ?_; try omega
   refine run ?_; rotate_left
   all_goals first | exact wT () leP leP | (exfalso; omega)
 rw [lU hr]
 unfold sufB
 rw [← List.append_assoc, ← List.append_assoc]
 generalize hb : headB s ++ (if 0 < s.byr then [32, 98, 121, 32] ++ regW s.byr else []) = base
 have hbl : base.length ≤ 66 := by rw [← hb, List.length_append]; omega
 have f8 : Frozen 8 := ⟨trivial⟩
 refine run ?_; refine aoR fun _ => ?_
 refine run ?_; rotate_left
 rename_i u
 refine uW (X := Nat) (fun i => tmL [(6, .bs (sufN base s.aq s.rl i)), (48, .os 48 (u, 6) 2 2), (49, .int .i64 2), (50, .int .i64 i)]) (fun _ => stL [(48, ((u, 6), ⟨2, [[.bool s.aq, .bs [32, 97, 113]], [.bool s.rl, .bs [32, 114, 108]]]⟩))]) (fun i => i ≤ 2) (fun i => 2 - i) 0 (by omega) leP leP ?_
 intro i hi
 have hS : ∀ a r i, (sufN base a r i).length ≤ 74 := fun a r i => by
  rcases i with _ | _ | i <;> cases a <;> cases r <;> simp [sufN] <;> omega
 rcases (by omega : i = 0 ∨ i = 1 ∨ i = 2) with rfl | rfl | rfl
 ·cases haq : s.aq with
  | true =>
   have l0 := hS true s.rl 0
   refine run ?_; refine aoR fun _ => ?_
   refine run ?_; refine cnd ?_ ?_
   refine uB fun _ => ?_; try omega
   refine run ?_; refine aoR fun _ => ?_
   refine run ?_; refine aoR fun _ => ?_
   refine run ?_; refine cnd ?_ ?_; refine vI ?_; refine aoR fun _ => ?_
   refine run ?_
   apply uJ; exact rfl; exact rfl; (((simp only [List.length_append, List.length_cons, List.length_nil]); omega))
   refine run ?_; refine aoR fun _ => ?_
   refine run ?_; rotate_left
   exact wR
   refine uC fun _ => ?_; try omega
   all_goals first | exact uT 1 (by omega) (by omega) leP leP | (exfalso; omega)
  | false =>
   have e : sufN base false s.rl 1 = sufN base false s.rl 0 := by simp [sufN]
   refine run ?_; refine aoR fun _ => ?_
   refine run ?_; refine cnd ?_ ?_
   refine uB fun _ => ?_; try omega
   refine run ?_; refine aoR fun _ => ?_
   refine run ?_; refine aoR fun _ => ?_
   refine run ?_; refine cnd ?_ ?_
   exact wS
   refine xL ?_; refine run ?_; refine aoR fun _ => ?_
   refine run ?_; rotate_left
   refine uC fun _ => ?_; try omega
   all_goals first | exact uT 1 (by omega) (by omega) (by rw [e]; exact leP) leP | (exfalso; omega)
 ·cases hrl : s.rl with
  | true =>
   have l0 := hS s.aq true 1
   refine run ?_; refine aoR fun _ => ?_
   refine run ?_; refine cnd ?_ ?_
   refine uB fun _ => ?_; try omega
   refine run ?_; refine aoR fun _ => ?_
   refine run ?_; refine aoR fun _ => ?_
   refine run ?_; refine cnd ?_ ?_; refine vI ?_; refine aoR fun _ => ?_
   refine run ?_
   apply uJ; exact rfl; exact rfl; (((simp only [List.length_append, List.length_cons, List.length_nil]); omega))
   refine run ?_; refine aoR fun _ => ?_
   refine run ?_; rotate_left
   exact wR
   refine uC fun _ => ?_; try omega
   all_goals first | exact uT 2 (by omega) (by omega) leP leP | (exfalso; omega)
  | false =>
   have e : sufN base s.aq false 2 = sufN base s.aq false 1 := by simp [sufN]
   refine run ?_; refine aoR fun _ => ?_
   refine run ?_; refine cnd ?_ ?_
   refine uB fun _ => ?_; try omega
   refine run ?_; refine aoR fun _ => ?_
   refine run ?_; refine aoR fun _ => ?_
   refine run ?_; refine cnd ?_ ?_
   exact wS
   refine xL ?_; refine run ?_; refine aoR fun _ => ?_
   refine run ?_; rotate_left
   refine uC fun _ => ?_; try omega
   all_goals first | exact uT 2 (by omega) (by omega) (by rw [e]; exact leP) leP | (exfalso; omega)
 ·refine run ?_
  refine aoR fun _ => ?_; refine run ?_
  refine cnd ?_ ?_
  refine uB fun _ => ?_; try omega
  refine uC fun _ => ?_; try omega
  refine run ?_; refine aoR fun _ => ?_
  refine run ?_; rotate_left
  all_goals first | exact uK rfl rfl | (exfalso; omega)
structure Over where
 n : Nat
 os : Array Obj
 deriving Inhabited
def over (w : World) (p : Over) : World := { w with drawn := p.n, heap := w.heap ++ p.os }
structure Sl where
 a : Option Addr
 n : Nat
 c : Nat
 deriving Inhabited
def Sl.v (s : Sl) : Value := .slice s.a s.n s.c
structure Ev where
 hart : Int
 kind : Int
 addr : Int
 val : Int
 rval : Int
 aq : Bool
 rl : Bool
 pred : Int
 succ : Int
 rsv : Bool
 av : Sl
 dv : Sl
 cv : Sl
 addrs : List Int
 datas : List Int
 ctrls : List Int
 deriving Inhabited
def Ev.cells (e : Ev) : List Value := [.int .i64 e.hart, .int .i64 e.kind, .int .u32 e.addr, .int .u32 e.val, .int .u32 e.rval, .bool e.aq, .bool e.rl, .int .i64 e.pred, .int .i64 e.succ, .bool e.rsv, .slice e.av.a e.av.n e.av.c, .slice e.dv.a e.dv.n e.dv.c, .slice e.cv.a e.cv.n e.cv.c]
def Ev.agg (e : Ev) : Value := .agg #[.int .i64 e.hart, .int .i64 e.kind, .int .u32 e.addr, .int .u32 e.val, .int .u32 e.rval, .bool e.aq, .bool e.rl, .int .i64 e.pred, .int .i64 e.succ, .bool e.rsv, .slice e.av.a e.av.n e.av.c, .slice e.dv.a e.dv.n e.dv.c, .slice e.cv.a e.cv.n e.cv.c]
def Ev.small (e : Ev) : Prop := e.av.n ≤ 1152921504606846976 ∧ e.dv.n ≤ 1152921504606846976 ∧ e.cv.n ≤ 1152921504606846976
def Ev.stB (e : Ev) : Bool := e.kind == 2 || e.kind == 3 || e.kind == 5
def Ev.ldB (e : Ev) : Bool := e.kind == 1 || e.kind == 3
def Ev.bareB (e : Ev) : Bool :=
 if e.kind = 5 then e.hart == -1 && e.rval == 0 && !(decide (0 < e.av.n + e.dv.n + e.cv.n)) && !(e.pred != 0 || e.succ != 0) && !(e.aq || e.rl || e.rsv)
 else if e.kind = 1 then e.val == 0 && !(e.pred != 0 || e.succ != 0) && e.dv.n == 0
 else if e.kind = 2 then e.rval == 0 && !(e.pred != 0 || e.succ != 0)
 else if e.kind = 3 then !(e.pred != 0 || e.succ != 0) && !e.rsv
 else if e.kind = 4 then e.addr == 0 && e.val == 0 && e.rval == 0 && !(e.aq || e.rl || e.rsv) && e.av.n + e.dv.n == 0 && decide (0 ≤ e.pred) && decide (e.pred ≤ 3) && decide (0 ≤ e.succ) && decide (e.succ ≤ 3)
 else false
def IntsIn (q : IntKind) (B : Nat) (w : World) (s : Sl) (xs : List Int) : Prop :=
 s.n = xs.length ∧ xs.length ≤ 1152921504606846976 ∧
 (xs = [] ∨ ∃ b off, s.a = some ⟨b, off, none⟩ ∧ b < B ∧ ∀ k, k < xs.length → w.cell? ⟨b, off + k, none⟩ = some (.int q (xs.getD k 0)))
theorem IntsIn.below {q : IntKind} {B : Nat} {w w' : World} {s : Sl} {xs : List Int} (h : IntsIn q B w s xs) (hb : Below B w w') : IntsIn q B w' s xs := by
 obtain ⟨h1, h2, h3⟩ := h
 refine ⟨h1, h2, ?_⟩
 rcases h3 with h3 | ⟨b, off, h4, h5, h6⟩
 ·exact Or.inl h3
 ·exact Or.inr ⟨b, off, h4, h5, fun k hk => by rw [hb.cell (by exact h5)]; exact h6 k hk⟩
theorem IntsIn.mono {q : IntKind} {B B' : Nat} {w : World} {s : Sl} {xs : List Int} (h : IntsIn q B w s xs) (hB : B ≤ B') : IntsIn q B' w s xs := by
 obtain ⟨h1, h2, h3⟩ := h
 refine ⟨h1, h2, ?_⟩
 rcases h3 with h3 | ⟨b, off, h4, h5, h6⟩
 ·exact Or.inl h3
 ·exact Or.inr ⟨b, off, h4, by omega, h6⟩
def Ev.wf (e : Ev) : Prop := (-9223372036854775808 ≤ e.hart ∧ e.hart ≤ 9223372036854775807) ∧ (-9223372036854775808 ≤ e.kind ∧ e.kind ≤ 9223372036854775807) ∧ (0 ≤ e.addr ∧ e.addr < 4294967296) ∧ (0 ≤ e.val ∧ e.val < 4294967296) ∧
 (0 ≤ e.rval ∧ e.rval < 4294967296) ∧ (-9223372036854775808 ≤ e.pred ∧ e.pred ≤ 9223372036854775807) ∧ (-9223372036854775808 ≤ e.succ ∧ e.succ ≤ 9223372036854775807)
def Ev.okIn (B : Nat) (w : World) (e : Ev) : Prop :=
 IntsIn .i64 B w e.av e.addrs ∧ IntsIn .i64 B w e.dv e.datas ∧ IntsIn .i64 B w e.cv e.ctrls ∧ e.wf
theorem Ev.okIn.below {B : Nat} {w w' : World} {e : Ev} (h : e.okIn B w) (hb : Below B w w') : e.okIn B w' := ⟨h.1.below hb, h.2.1.below hb, h.2.2.1.below hb, h.2.2.2⟩
theorem Ev.okIn.small {B : Nat} {w : World} {e : Ev} (h : e.okIn B w) : e.small := by
 obtain ⟨⟨a1, a2, _⟩, ⟨b1, b2, _⟩, ⟨c1, c2, _⟩, _⟩ := h
 exact ⟨by omega, by omega, by omega⟩
def EvCells (w : World) (b o : Nat) (e : Ev) : Prop := w.cell? ⟨b, o, none⟩ = some (Value.int IntKind.i64 e.hart) ∧ w.cell? ⟨b, o + 1, none⟩ = some (Value.int IntKind.i64 e.kind) ∧ w.cell? ⟨b, o + 2, none⟩ = some (Value.int IntKind.u32 e.addr) ∧ w.cell? ⟨b, o + 3, none⟩ = some (Value.int IntKind.u32 e.val) ∧ w.cell? ⟨b, o + 4, none⟩ = some (Value.int IntKind.u32 e.rval) ∧ w.cell? ⟨b, o + 5, none⟩ = some (Value.bool e.aq) ∧ w.cell? ⟨b, o + 6, none⟩ = some (Value.bool e.rl) ∧ w.cell? ⟨b, o + 7, none⟩ = some (Value.int IntKind.i64 e.pred) ∧ w.cell? ⟨b, o + 8, none⟩ = some (Value.int IntKind.i64 e.succ) ∧ w.cell? ⟨b, o + 9, none⟩ = some (Value.bool e.rsv) ∧ w.cell? ⟨b, o + 10, none⟩ = some (Value.slice e.av.a e.av.n e.av.c) ∧ w.cell? ⟨b, o + 11, none⟩ = some (Value.slice e.dv.a e.dv.n e.dv.c) ∧ w.cell? ⟨b, o + 12, none⟩ = some (Value.slice e.cv.a e.cv.n e.cv.c)
def EvsIn (B : Nat) (w : World) (s : Sl) (es : List Ev) : Prop :=
 s.n = es.length ∧ es.length ≤ 1152921504606846976 ∧ (∀ e ∈ es, e.okIn B w) ∧
 (es = [] ∨ ∃ b off, s.a = some ⟨b, off, none⟩ ∧ b < B ∧ ∀ k, k < es.length → EvCells w b (off + k * 13) (es.getD k default))
theorem EvCells.below {B : Nat} {w w' : World} {b o : Nat} {e : Ev} (h : EvCells w b o e) (hb : Below B w w') (hB : b < B) : EvCells w' b o e := by
 unfold EvCells at *
 simp only [show ∀ j, w'.cell? ⟨b, j, none⟩ = w.cell? ⟨b, j, none⟩ from fun j => hb.cell (p := ⟨b, j, none⟩) hB]
 exact h
theorem EvsIn.below {B : Nat} {w w' : World} {s : Sl} {es : List Ev} (h : EvsIn B w s es) (hb : Below B w w') : EvsIn B w' s es := by
 obtain ⟨h1, h2, h3, h4⟩ := h
 refine ⟨h1, h2, fun e he => (h3 e he).below hb, ?_⟩
 rcases h4 with h4 | ⟨b, off, h4, h5, h6⟩
 ·exact Or.inl h4
 ·exact Or.inr ⟨b, off, h4, h5, fun k hk => (h6 k hk).below hb h5⟩
theorem EvsIn.mono {B B' : Nat} {w : World} {s : Sl} {es : List Ev} (h : EvsIn B w s es) (hB : B ≤ B') : EvsIn B' w s es := by
 obtain ⟨h1, h2, h3, h4⟩ := h
 refine ⟨h1, h2, fun e he => ⟨(h3 e he).1.mono hB, (h3 e he).2.1.mono hB, (h3 e he).2.2.1.mono hB, (h3 e he).2.2.2⟩, ?_⟩
 rcases h4 with h4 | ⟨b, off, h4, h5, h6⟩
 ·exact Or.inl h4
 ·exact Or.inr ⟨b, off, h4, by omega, h6⟩
def RowsIn (B : Nat) (w : World) (s : Sl) (rows : List (Sl × List Int)) : Prop :=
 s.n = rows.length ∧ rows.length ≤ 1152921504606846976 ∧ (∀ r ∈ rows, IntsIn .i64 B w r.1 r.2) ∧
 (rows = [] ∨ ∃ b off, s.a = some ⟨b, off, none⟩ ∧ b < B ∧ ∀ k, k < rows.length → w.cell? ⟨b, off + k, none⟩ = some (rows.getD k default).1.v)
theorem RowsIn.below {B : Nat} {w w' : World} {s : Sl} {rows : List (Sl × List Int)} (h : RowsIn B w s rows) (hb : Below B w w') : RowsIn B w' s rows := by
 obtain ⟨h1, h2, h3, h4⟩ := h
 refine ⟨h1, h2, fun e he => (h3 e he).below hb, ?_⟩
 rcases h4 with h4 | ⟨b, off, h4, h5, h6⟩
 ·exact Or.inl h4
 ·exact Or.inr ⟨b, off, h4, h5, fun k hk => by rw [hb.cell (by exact h5)]; exact h6 k hk⟩
structure Ex where
 es : Sl
 fs : Sl
 os : Sl
 evs : List Ev
 from_ : List Int
 order : List (Sl × List Int)
 deriving Inhabited
def Ex.agg (x : Ex) : Value := .agg #[.slice x.es.a x.es.n x.es.c, .slice x.fs.a x.fs.n x.fs.c, .slice x.os.a x.os.n x.os.c]
def Ex.inW (B : Nat) (w : World) (x : Ex) : Prop := EvsIn B w x.es x.evs ∧ IntsIn .i64 B w x.fs x.from_ ∧ RowsIn B w x.os x.order
theorem Ex.inW.below {B : Nat} {w w' : World} {x : Ex} (h : x.inW B w) (hb : Below B w w') : x.inW B w' := ⟨h.1.below hb, h.2.1.below hb, h.2.2.below hb⟩
def depOk (es : List Ev) (n : Nat) (l : List Int) (i : Nat) : Bool :=
  !(decide (l.getD i 0 < 0)) && !(decide ((n : Int) ≤ l.getD i 0)) && !(decide (0 < i) && decide (l.getD i 0 ≤ l.getD (i - 1) 0)) &&
    !((es.getD (l.getD i 0).toNat default).hart != (es.getD n default).hart) && (es.getD (l.getD i 0).toNat default).ldB
def hangsTo (es : List Ev) (n : Nat) (l : List Int) (k : Nat) : Bool := (List.range k).all (depOk es n l)
def hangsB (es : List Ev) (n : Nat) (l : List Int) : Bool := hangsTo es n l l.length
def PairsZ (B : Nat) (w : World) (s : Sl) (l : List (Int × Int)) : Prop :=
 s.n = l.length ∧ l.length ≤ 1152921504606846976 ∧
 (l = [] ∨ ∃ b off, s.a = some ⟨b, off, none⟩ ∧ b < B ∧ ∀ k, k < l.length → w.cell? ⟨b, off + k * 2, none⟩ = some (.int .i64 (l.getD k (0, 0)).1) ∧ w.cell? ⟨b, off + k * 2 + 1, none⟩ = some (.int .i64 (l.getD k (0, 0)).2))
theorem PairsZ.below {B : Nat} {w w' : World} {s : Sl} {l : List (Int × Int)} (h : PairsZ B w s l) (hb : Below B w w') : PairsZ B w' s l := by
 obtain ⟨h1, h2, h3⟩ := h
 refine ⟨h1, h2, ?_⟩
 rcases h3 with h3 | ⟨b, off, h4, h5, h6⟩
 ·exact Or.inl h3
 ·exact Or.inr ⟨b, off, h4, h5, fun k hk => by rw [hb.cell (by exact h5), hb.cell (by exact h5)]; exact h6 k hk⟩
theorem PairsZ.mono {B B' : Nat} {w : World} {s : Sl} {l : List (Int × Int)} (h : PairsZ B w s l) (hB : B ≤ B') : PairsZ B' w s l := by
 obtain ⟨h1, h2, h3⟩ := h
 refine ⟨h1, h2, ?_⟩
 rcases h3 with h3 | ⟨b, off, h4, h5, h6⟩
 ·exact Or.inl h3
 ·exact Or.inr ⟨b, off, h4, by omega, h6⟩
def outB (n : Int) (p : Int × Int) : Bool := decide (p.1 < 0) || decide (n ≤ p.1) || decide (p.2 < 0) || decide (n ≤ p.2)
abbrev Gone := Nat → Bool
def updB (g : Gone) (p : Nat) : Gone := fun i => if i = p then true else g i
def ledB (l : List (Int × Int)) (g : Gone) (p : Nat) : Bool := l.any (fun q => (q.2 == (p : Int)) && !g q.1.toNat)
def takeP (l : List (Int × Int)) (g : Gone) (p : Nat) : Gone := if ledB l g p then g else updB g p
def passTo (l : List (Int × Int)) (g : Gone) (k : Nat) : Gone := (List.range k).foldl (takeP l) g
def roundsTo (l : List (Int × Int)) (n : Nat) : Nat → Gone
 | 0 => fun _ => false
 | r + 1 => passTo l (roundsTo l n r) n
def circleB (n : Nat) (l : List (Int × Int)) : Bool := (List.range n).any (fun p => !roundsTo l n n p)
open Go.RowKit Go.ChangeShapes Go.WideShapes Go.Deep
theorem below_sameAt {n : Nat} {W W' : World} {q : MemPlace} (h : Below n W W') (hq : q.block < n) : W.sameAt W' q := by
 cases q with
 | cell b o => exact World.cell?_of_block (w := W) (h.block b hq)
 | map b => exact h.block b hq
theorem fP {H : Type} {enc : TypeId × Value → H} {W W' : World} (hl : laidOutB Tryz.prog = true) (hb : Below W.heap.size W W') :
  ∀ {ts : List TypeId} {vs : List Value} {ds : List (DataW H)} {p : List MemPlace}, (∀ t ∈ ts, Tryz.prog.readableRec t = true ∧ t < Tryz.prog.types.size) → DataW.TrodAll enc Tryz.prog W 0 (fun _ => true) true ts vs ds p → (∀ q ∈ p, q.block < W.heap.size) →
   ∀ sp : Nat → Bool, (∀ q ∈ p, sp q.block = true) → DataW.TrodAll enc Tryz.prog W' 0 sp true ts vs ds p
 | [], vs, ds, p, _, h, _, sp, _ => by
  obtain ⟨rfl, rfl, rfl⟩ := trodAll_nil h
  exact trodAll_mk0
 | t :: ts, vs, ds, p, ht, h, hlt, sp, hsp => by
  obtain ⟨v, vs', d, ds', p0, p1, rfl, rfl, rfl, h0, r0⟩ := trodAll_cons h
  have h1 := WideElems.Trod_stays hl (ht t (by simp)).1 (ht t (by simp)).2 (W' := W') (sp' := sp) h0 (fun q hq => below_sameAt hb (hlt q (by simp [hq]))) (fun q hq => hsp q (by simp [hq]))
  exact trodAll_cons_mk h1 (fP hl hb (fun t' ht' => ht t' (by simp [ht'])) r0 (fun q hq => hlt q (by simp [hq])) sp (fun q hq => hsp q (by simp [hq])))
theorem laid_ok : laidOutB Tryz.prog = true := by kernel_rfl
theorem fM {H : Type} {P : Program} {e : TypeId} : ∀ {es : List (DataW H)} {d : DataW H}, d ∈ es → ∀ n ∈ d.weights P e, n ∈ DataW.weightsAll P e es
 | [], _, h, _, _ => by cases h
 | x :: es, d, h, n, hn => by
  simp only [DataW.weightsAll, List.mem_append]
  rcases List.mem_cons.1 h with rfl | h
  ·exact Or.inl hn
  ·exact Or.inr (fM h n hn)
theorem lD {H : Type} {P : Program} {t e : TypeId} {es sp : List (DataW H)} (ht : P.underlying t = some (.slice e)) (h : ∀ n ∈ (DataW.slice es sp).weights P t, n ≤ reachBytes) :
  (es.length + sp.length) * P.bytesOf e ≤ reachBytes ∧ ∀ d ∈ es, ∀ n ∈ d.weights P e, n ≤ reachBytes := by
 unfold DataW.weights at h
 rw [ht] at h
 refine ⟨h _ (by simp), fun d hd n hn => h n ?_⟩
 simp only [List.mem_cons, List.mem_append]
 exact Or.inr (Or.inl (fM hd n hn))
theorem w_struct {H : Type} {P : Program} {t : TypeId} {fs : Array Field} {parts : List (DataW H)} (ht : P.underlying t = some (.struct fs)) (h : ∀ n ∈ (DataW.agg parts).weights P t, n ≤ reachBytes) {i : Nat} {f : Field} {d : DataW H} (hf : fs[i]? = some f) (hd : parts[i]? = some d) :
  ∀ n ∈ d.weights P f.type, n ≤ reachBytes := by
 intro n hn
 refine h n ?_
 unfold DataW.weights
 rw [ht]
 exact DataW.weights_mem_each (j := i) (t := f.type) (by simp [hf]) hd n hn
theorem oB {H : Type} {P : Program} {ts : List TypeId} {ds : List (DataW H)} (h : (DataW.weightsEach P ts ds).all (· ≤ reachBytes) = true) {j : Nat} {t : TypeId} {d : DataW H} (ht : ts[j]? = some t) (hd : ds[j]? = some d) : ∀ n ∈ d.weights P t, n ≤ reachBytes := by
 intro n hn
 have := List.all_eq_true.1 h n (DataW.weights_mem_each ht hd n hn)
 simpa using this
theorem mK {W : World} {a : Addr} {v : Value} (h : W.cell? a = some v) : a.spot = none ∧ a.block < W.heap.size := by
 unfold World.cell? at h
 cases hb : W.heap[a.block]? with
 | none => rw [hb] at h; cases h
 | some o =>
  refine ⟨?_, (Array.getElem?_eq_some_iff.1 hb).1⟩
  rw [hb] at h
  cases o with
  | cells c t fr =>
   simp only at h
   cases hs : a.spot with
   | none => rfl
   | some _ => rw [hs] at h; simp at h
  | _ => cases h
theorem mM {a : Addr} (h : a.spot = none) : a = ⟨a.block, a.off, none⟩ := by cases a; simp at h; subst h; rfl
section
variable {H : Type} {enc : TypeId × Value → H} {W : World} {sp : Nat → Bool} {held : Bool}
end
open Go.RowKit Go.ChangeShapes Go.WideShapes Go.Deep
theorem xQ : Tryz.prog.cellsOf 3 = 1 := by kernel_rfl
theorem cells_u32 : Tryz.prog.cellsOf 34 = 1 := by kernel_rfl
theorem eX : Tryz.prog.cellsOf 4 = 1 := by kernel_rfl
theorem mQ {n : Int} (h : (Lit.int .u32 n).wf = true) : 0 ≤ n ∧ n < 4294967296 := by
 simp only [Lit.wf, Bool.and_eq_true, decide_eq_true_eq] at h
 have e1 : IntKind.u32.min = 0 := by decide
 have e2 : IntKind.u32.max = 4294967295 := by decide
 omega
theorem zI {α : Type} {l : List α} {i : Nat} {x : α} (h : l[i]? = some x) : (l.drop i).take 1 = [x] := by
 obtain ⟨hi, rfl⟩ := List.getElem?_eq_some_iff.1 h
 rw [List.drop_eq_getElem_cons hi]; rfl
theorem xR {α : Type} {l : List α} {n : Nat} (h : l.length = n) (i : Nat) (hi : i < n) : ∃ x, l[i]? = some x := ⟨l[i], List.getElem?_eq_getElem (by omega)⟩
section
variable {H : Type} {enc : TypeId × Value → H} {W : World} {sp : Nat → Bool} {held : Bool}
end
set_option maxRecDepth 100000
def evTV (e : Ev) : List TV := [.c (.int .i64 e.hart), .c (.int .i64 e.kind), .c (.int .u32 e.addr), .c (.int .u32 e.val), .c (.int .u32 e.rval), .c (.bool e.aq), .c (.bool e.rl), .c (.int .i64 e.pred), .c (.int .i64 e.succ), .c (.bool e.rsv), ints e.addrs, ints e.datas, ints e.ctrls]
def evOV (e : Ev) : OV := .ag ((evTV e).map .d)
def evsTV (l : List Ev) : TV := .sl 13 (l.map evTV)
def intRow (r : Sl × List Int) : List TV := [ints r.2]
def rowsTV (l : List (Sl × List Int)) : TV := .sl 1 (l.map intRow)
def exOV (x : Ex) : OV := .ag [.d (evsTV x.evs), .d (ints x.from_), .d (rowsTV x.order)]
def cellU (n : Int) : List TV := [.c (.int .u32 n)]
def words (l : List Int) : TV := .sl 1 (l.map cellU)
def allM (w : World) : Mem := fun b o => w.cell? ⟨b, o, none⟩
def allG (w : World) (kn : KN (allM w)) : Gh := ⟨allM w, fun _ _ => none, kn⟩
theorem WRel.all (w : World) (kn : KN (allM w)) (N : Nat) : WRel ⟨w, fun _ => False, allG w kn, N⟩ (allG w kn) Store.nil w where
 mem _ _ _ h := h
 own k τ r hk := by cases hk
 inj k k' τ τ' β β' r r' hk := by cases hk
 keep _ _ _ := rfl
 size := Nat.le_refl _
 tape := rfl
 os := rfl
 output := rfl
 g0 := .refl _
 new _ _ _ h := Or.inl h
 bound := ⟨0, fun _ _ _ _ => rfl⟩
 low _ _ _ _ := rfl
theorem xV {M : Mem} {v : Value} (h : v.oneCell' = true) : Rep M (.c v) v := by rw [Rep]; exact ⟨rfl, h⟩
theorem IntsIn.rep {q : IntKind} {B : Nat} {w : World} {s : Sl} {l : List Int} (h : IntsIn q B w s l) (hc : s.n ≤ s.c) : Rep (allM w) (.sl 1 (l.map fun n => [TV.c (.int q n)])) (.slice s.a s.n s.c) := by
 obtain ⟨h1, h2, h3⟩ := h
 rw [Rep]
 refine ⟨s.a, s.c, by simp [h1], by simpa [h1] using hc, ?_⟩
 rcases h3 with rfl | ⟨b, off, h4, h5, h6⟩
 ·exact Or.inl rfl
 ·refine Or.inr ⟨b, off, h4, RepR.of_get fun i r hi => ?_⟩
  rw [List.getElem?_map] at hi
  obtain ⟨n, hn, rfl⟩ := Option.map_eq_some_iff.1 hi
  obtain ⟨hlt, rfl⟩ := List.getElem?_eq_some_iff.1 hn
  refine ⟨rfl, RepC.of_get fun o t ht => ?_⟩
  cases o with
  | succ o => simp at ht
  | zero =>
   simp at ht
   subst ht
   have := h6 i hlt
   rw [List.getD_eq_getElem?_getD, List.getElem?_eq_getElem hlt] at this
   exact ⟨_, by simpa [allM] using this, xV rfl⟩
open Go.RowKit Go.ChangeShapes Go.WideShapes Go.Deep
def bound60 : Nat := 1152921504606846976
def Ev.ok (e : Ev) : Prop := e.wf ∧ e.addrs.length ≤ 1152921504606846976 ∧ e.datas.length ≤ 1152921504606846976 ∧ e.ctrls.length ≤ 1152921504606846976 ∧ e.av.n = e.addrs.length ∧ e.dv.n = e.datas.length ∧ e.cv.n = e.ctrls.length
def Ex.ok (x : Ex) : Prop := x.evs.length ≤ 1152921504606846976 ∧ (∀ e ∈ x.evs, e.ok) ∧ x.from_.length ≤ 1152921504606846976 ∧ x.order.length ≤ 1152921504606846976 ∧ ∀ r ∈ x.order, r.2.length ≤ 1152921504606846976
section
variable {H : Type} {enc : TypeId × Value → H} {W : World} {sp : Nat → Bool} {held : Bool}
end
set_option maxHeartbeats 4000000
set_option maxRecDepth 100000
def pairO' (p : Int × Int) : List OV := [.int .i64 p.1, .int .i64 p.2]
def pairYs (l : List (Int × Int)) : List (List OV) := l.map fun p => [.ag (pairO' p)]
theorem take_get' {α : Type} (l : List α) (d : α) (k : Nat) (h : k < l.length) : l.take (k + 1) = l.take k ++ [l.getD k d] := by
 rw [List.take_succ_eq_append_getElem h, List.getD_eq_getElem?_getD, List.getElem?_eq_getElem h]; rfl
set_option maxRecDepth 100000
section
variable {E : Env} {V J : Nat} {ty : TypeId} {pos : String} {af : Array Edge} {gd : Option (Nat × Bool)} {tm : Tm} {σ : Store}
end
structure RenOf (d : Nat) : Prop where
 on : True
variable {E : Env} {v j : Nat} {ops : Array Oper} {K : Tm → Store → Prop} {KD : List Foot → Tm → Store → Prop} {acc : List Foot} {rest : List Oper} {tm : Tm} {σ : Store} {ty : TypeId} {pos : String} {af : Array Edge} {gd : Option (Nat × Bool)}
end Go.Proofs.YtjogffchdejabaaGreatDoor
set_option maxRecDepth 100000
namespace Go.Proofs.YtjogffchdejabaaGreatDoor
open Go.RowKit
open Go.RowKit Go.Lib
def stO (s : Stp) : List OV := (stTV s).map .d
def stsTV (l : List Stp) : TV := .sl 10 (l.map stTV)
theorem info_st : (Tryz.prog.info? 47).map (fun i => (i.zero, i.size, i.bytes)) = some (some (Value.agg #[.int .i64 0, .int .i64 0, .int .i64 0, .int .u32 0, .int .i64 0, .int .i64 0, .bool false, .bool false, .int .i64 0, .int .i64 0]), 10, 72) := by kernel_rfl
set_option maxHeartbeats 2000000 in
theorem grow_zeroT (w : World) : Calls Tryz.prog 143 #[.slice none 0 0, .int .i64 0] w fun e w' => e = .returned (.slice none 0 0) ∧ w' = w := by
 go_enter Tryz.func143, Tryz.ntmps143
 go_wp2
 go_ret
 exact ⟨rfl, rfl⟩
set_option maxHeartbeats 2000000 in
theorem grow_moreT (n : Nat) (h0 : 0 < n) (hn : n ≤ 65536) (w : World) : Calls Tryz.prog 143 #[.slice none 0 0, .int .i64 n] w fun e w' =>
  ∃ cs : Array Value, cs.size = grownCap w n 0 47 * 10 ∧ e = .returned (.slice (some ⟨w.heap.size, 0, none⟩) 0 (grownCap w n 0 47)) ∧ w' = w.drew.alloc (.cells cs 47) := by
 obtain ⟨i0, hi, jz0, jz1, jz2⟩ := info_parts info_st
 have h1 : ¬ ((n : Int) < 0) := by omega
 have h2 : RowKit.wrap64 ((0 : Int) - (0 : Int)) = 0 := by unfold RowKit.wrap64; omega
 have h3 : RowKit.wrap64 ((n : Int) - (0 : Int)) = (n : Int) := by unfold RowKit.wrap64; omega
 have h4 : (n : Int) > 0 := by omega
 have hGn : n ≤ grownCap w n 0 47 := grownCap_ge w _ _ _
 have hrz : ∀ ty, (Builtin.append_ #[49, 3] ty #[.slice none 0 0, .int .i64 (n : Int)]).run Tryz.prog w =
   .ok (.slice (some ⟨w.heap.size, 0, none⟩) n (grownCap w n 0 47)) (w.drew.alloc (.cells ((#[] : Array Value) ++ Builtin.zeroCells (Value.agg #[.int .i64 0, .int .i64 0, .int .i64 0, .int .u32 0, .int .i64 0, .int .i64 0, .bool false, .bool false, .int .i64 0, .int .i64 0]).cells n ++ Builtin.zeroCells (Value.agg #[.int .i64 0, .int .i64 0, .int .i64 0, .int .u32 0, .int .i64 0, .int .i64 0, .bool false, .bool false, .int .i64 0, .int .i64 0]).cells (grownCap w n 0 47 - n)) 47)) := fun ty => by
  have h := Lib.run_append_grow_zeros w 49 3 ty 47 i0 _ .i64 .i64 Tryz.underlying49 Tryz.underlying3 hi jz0 none 0 0 [] (run_firstCells_none w.drew i0.size 0 0 0) n h0 (by omega) (by omega) (by omega) (by rw [jz2]; omega) (growslice_fits (by omega) (by rw [jz2]; omega))
  simpa using h
 have hcs : ((#[] : Array Value) ++ Builtin.zeroCells (Value.agg #[.int .i64 0, .int .i64 0, .int .i64 0, .int .u32 0, .int .i64 0, .int .i64 0, .bool false, .bool false, .int .i64 0, .int .i64 0]).cells n ++ Builtin.zeroCells (Value.agg #[.int .i64 0, .int .i64 0, .int .i64 0, .int .u32 0, .int .i64 0, .int .i64 0, .bool false, .bool false, .int .i64 0, .int .i64 0]).cells (grownCap w n 0 47 - n)).size = grownCap w n 0 47 * 10 := by
  simp only [Array.size_append, List.size_toArray, List.length_nil, size_zeroCells, Value.cells, List.length_cons]
  omega
 obtain ⟨CS, hCS⟩ : ∃ CS, ((#[] : Array Value) ++ Builtin.zeroCells (Value.agg #[.int .i64 0, .int .i64 0, .int .i64 0, .int .u32 0, .int .i64 0, .int .i64 0, .bool false, .bool false, .int .i64 0, .int .i64 0]).cells n ++ Builtin.zeroCells (Value.agg #[.int .i64 0, .int .i64 0, .int .i64 0, .int .u32 0, .int .i64 0, .int .i64 0, .bool false, .bool false, .int .i64 0, .int .i64 0]).cells (grownCap w n 0 47 - n)) = CS := ⟨_, rfl⟩
 rw [hCS] at hcs
 simp only [hCS] at hrz
 obtain ⟨Gc, hG⟩ : ∃ Gc, grownCap w n 0 47 = Gc := ⟨_, rfl⟩
 rw [hG] at hcs hGn ⊢
 simp only [hG] at hrz
 have hG63 : Gc ≤ 9223372036854775807 := by
  have := grownCap_le_maxLen w n 0 47 (by unfold maxLen; omega)
  rw [hG] at this
  unfold maxLen at this
  omega
 clear hCS hG
 go_enter Tryz.func143, Tryz.ntmps143
 go_wp2_with (at_builtin; refine Lib.wpList_append_run _ rfl _ _ _ _ rfl _ _ rfl rfl _ _ (hrz _) ?_)
 all_goals (go_ret; exact ⟨CS, hcs, rfl, rfl⟩)
theorem lY (n : Nat) (hn : n ≤ 65536) : Own E.P 143 [.d (.c (.slice none 0 0)), .int .i64 n] 10 [] := by
 refine ⟨⟨_, Tryz.func143, by decide, rfl⟩, fun G w vs N hv hw => ?_⟩
 rw [RepOL] at hv
 obtain ⟨x1, us, rfl, h1, hv⟩ := hv
 rw [RepOL] at hv
 obtain ⟨x2, us, rfl, h2, hv⟩ := hv
 rw [RepOL] at hv
 subst hv
 have e1 := vA h1
 have e2 := vA h2
 subst e1 e2
 obtain ⟨v, hv, hf⟩ := hw.free
 rcases Nat.eq_zero_or_pos n with h0 | h0
 ·subst h0
  refine (grow_zeroT w).mono ?_
  rintro e w' ⟨rfl, rfl⟩
  exact ⟨_, _, .os 0 (v, 0) 10 0, _, rfl, ⟨0, (v, 0), rfl, Store.put_self _ _ _⟩, Gh.name_le G none (hf 0 0), by rw [RepO]; exact Or.inr ⟨Gh.name_self _ _ _ _, rfl, rfl⟩, hw.phantom 0 hv (hf 0 0) 10⟩
 ·refine (grow_moreT n h0 hn w).mono ?_
  rintro e w' ⟨cs, hcs, rfl, rfl⟩
  have hc := grownCap_le_maxLen w n 0 47 (by unfold maxLen; omega)
  have hw2 := (hw.drawn (w.drawn + 1)).alloc 0 hv (hf 0 0) cs 47 ⟨10, []⟩ (by simp) (fun i row hi => by simp at hi)
  exact ⟨_, _, .os 0 (v, 0) 10 0, _, rfl, ⟨0, (v, 0), rfl, Store.put_self _ _ _⟩, Gh.name_le G _ (hf 0 0), by rw [RepO]; exact Or.inl ⟨_, _, Gh.name_self _ _ _ _, rfl, Nat.zero_le _, hcs, hc⟩, hw2⟩
theorem eL (ls : List (List Stp)) (k : Nat) (h : k < ls.length) : (ls.take (k + 1)).flatten = (ls.take k).flatten ++ ls.getD k default := by
 rw [take_get' ls default k h, List.flatten_append]; simp
theorem bR (ls : List (List Stp)) (k : Nat) : ((ls.take k).flatten).length ≤ ls.flatten.length := by
 have h : ls = ls.take k ++ ls.drop k := (List.take_append_drop k ls).symm
 have := congrArg (fun l : List (List Stp) => l.flatten.length) h
 simp only [List.flatten_append, List.length_append] at this
 omega
def catRowT (l : List Stp) : List TV := [stsTV l]
set_option maxHeartbeats 4000000 in
theorem concat_oT (ls : List (List Stp)) (hl : ls.flatten.length ≤ 65536) (hn : ls.length ≤ 64) : Own E.P 92 [.d (.sl 1 (ls.map catRowT))] 10 (ls.flatten.map stO) := by
 have hG := fun n hn => lY n hn
 refine fnA Tryz.func92 Tryz.ntmps92 ?_
 refine run ?_; refine aoR fun _ => ?_
 refine run ?_; refine aoR fun _ => ?_
 refine run ?_; refine aoR fun _ => ?_
 refine run ?_; rotate_left
 refine uW (X := Nat) (fun k => tmL [(0, .d (.sl 1 (ls.map catRowT))), (3, .int .i64 ((ls.take k).flatten).length), (9, .d (.sl 1 (ls.map catRowT))), (10, .int .i64 ls.length), (11, .int .i64 k)]) (fun _ => stL []) (fun k => k ≤ ls.length) (fun k => ls.length - k) 0 (Nat.zero_le _) (by repeat' (first | exact vY _ | exact vB _ | refine uV rfl ?_ | refine uP rfl ?_ | (refine uY rfl ?_ ?_; (simp)) | (refine uO rfl ?_ ?_; (simp)) | (refine uN rfl ?_ ?_; (simp)))) leP ?_
 intro k hk
 have hfl := bR ls k
 by_cases hlt : k < ls.length
 ·have hfl1 := bR ls (k + 1)
  have hft := congrArg List.length (eL ls k hlt)
  rw [List.length_append] at hft
  have hA : ((ls.take k).flatten).length + (ls.getD (k : Int).toNat default).length ≤ 65536 := by rw [Int.toNat_natCast]; omega
  refine run ?_; refine aoR fun _ => ?_
  refine run ?_; refine cnd ?_ ?_
  refine uB fun _ => ?_; try omega
  refine run ?_; refine aoR fun _ => ?_
  refine run ?_; refine aoR fun _ => ?_
  refine run ?_; refine aoR fun _ => ?_
  refine run ?_; refine cnd ?_ ?_
  refine uB fun _ => ?_; try omega
  refine uC fun _ => ?_; try omega
  refine run ?_; refine aoR fun _ => ?_
  refine run ?_; rotate_left
  refine uC fun _ => ?_; try omega
  refine uT (k + 1) (by omega) (by omega) ?_ leP
  refine uV rfl (uV ?_ (uV rfl (uV rfl (uV rfl (vY _)))))
  show some (OV.int .i64 _) = some (OV.int .i64 _)
  rw [hft]; rfl
 ·have hkl : k = ls.length := by omega
  subst hkl
  rw [List.take_length]
  refine run ?_; refine aoR fun _ => ?_
  refine run ?_; refine cnd ?_ ?_
  refine uB fun _ => ?_; try omega
  refine uC fun _ => ?_; try omega
  refine run ?_; refine aoR fun _ => ?_
  refine run ?_
  apply S_own; exact rfl; exact .fn _ _ _; exact rfl; exact lY _ hl
  refine run ?_; refine aoR fun _ => ?_
  refine run ?_; rotate_left
  rename_i v24 _
  refine uW (X := Nat × Stamp) (fun p => tmL [(6, .os 6 p.2 10 ((ls.take p.1).flatten).length), (25, .d (.sl 1 (ls.map catRowT))), (26, .int .i64 ls.length), (27, .int .i64 p.1)]) (fun p => stL [(6, (p.2, ⟨10, ((ls.take p.1).flatten).map stO⟩))]) (fun p => p.1 ≤ ls.length) (fun p => ls.length - p.1) (0, (v24, 2)) (Nat.zero_le _) (by repeat' (first | exact vY _ | exact vB _ | refine uV rfl ?_ | refine uP rfl ?_ | (refine uY rfl ?_ ?_; (simp)) | (refine uO rfl ?_ ?_; (simp)) | (refine uN rfl ?_ ?_; (simp)))) (by repeat' (first | exact vY _ | exact vB _ | refine uV rfl ?_ | refine uP rfl ?_ | (refine uY rfl ?_ ?_; (simp)) | (refine uO rfl ?_ ?_; (simp)) | (refine uN rfl ?_ ?_; (simp)))) ?_
  rintro ⟨k, τ⟩ hk
  dsimp only at hk ⊢
  have hfl := bR ls k
  by_cases hlt : k < ls.length
  ·have hfl1 := bR ls (k + 1)
   have hft0 := eL ls k hlt
   have hft := congrArg List.length hft0
   rw [List.length_append] at hft
   have hA : ((ls.take k).flatten).length + (ls.getD (k : Int).toNat default).length ≤ 65536 := by rw [Int.toNat_natCast]; omega
   refine run ?_; refine aoR fun _ => ?_
   refine run ?_; refine cnd ?_ ?_
   refine uB fun _ => ?_; try omega
   refine run ?_; refine aoR fun _ => ?_
   refine run ?_; refine aoR fun _ => ?_
   refine run ?_; refine aoR fun _ => ?_
   refine run ?_; rotate_left
   refine uC fun _ => ?_; try omega
   rename_i v33 _
   refine uT (k + 1, (v33, 3)) (by dsimp only; omega) (by dsimp only; omega) ?_ ?_
   ·refine uV ?_ (uV rfl (uV rfl (uV rfl (vY _))))
    show some (OV.os 6 _ 10 _) = some (OV.os 6 _ 10 _)
    rw [hft, List.length_map, List.length_map, List.length_map]; rfl
   ·refine uP ?_ (vB _)
    show some (_, Row.mk 10 _) = some (_, Row.mk 10 _)
    rw [hft0, List.map_append, List.map_map]; rfl
  ·have hkl : k = ls.length := by omega
   subst hkl
   rw [List.take_length]
   refine run ?_; refine aoR fun _ => ?_
   refine run ?_; refine cnd ?_ ?_
   refine uB fun _ => ?_; try omega
   refine uC fun _ => ?_; try omega
   refine run ?_; refine aoR fun _ => ?_
   refine run ?_; rotate_left
   refine own_done (d := 2) rfl rfl rfl ?_
   first | exact (List.length_map ..).symm | exact List.length_map ..
set_option maxRecDepth 100000
set_option maxHeartbeats 1000000 in
theorem gU (n k : Int) (h0 : 0 ≤ n * k) (h1 : n * k ≤ 4611686018427387904) (τ : Stamp) : FnW E.P 115 [.int .i64 k, .lo 5 τ 1 0 0] (stL [(5, (τ, ⟨1, [[.int .i64 n]]⟩))]) (IsW (.tu []) (stL [(5, (τ, ⟨1, [[.int .i64 (capI (n * k))]]⟩))])) := by
 refine fnw_of_awp0 Tryz.func115 (by decide) rfl Tryz.ntmps115 (Nat.le_of_ble_eq_true rfl) rfl ?_
 refine aoR fun _ => ?_; refine run ?_
 rotate_left
 exact ⟨rfl, leP⟩
def oneO (n : Int) : OV := .int .i64 n
def manyO (m : List Int) : List OV := m.map oneO
def testOV (t : Ts) : OV := .ag [.d (.sl 1 (t.map catRowT))]
theorem fS {α : Type} (f : α → OV) (l : List α) (p : Nat) (a : α) (h : p < l.length) : setAt (l.map f) p [f a] = (l.set p a).map f := by
 unfold setAt
 rw [List.map_set, ← List.map_take, ← List.map_drop]
 simp only [List.length_cons, List.length_nil]
 rw [List.set_eq_take_append_cons_drop, if_pos (by simpa using h)]
 simp
def SOk (k : Nat) (p : List Int × Int) : Prop := p.1.length = 4 ∧ (∀ i, 0 ≤ p.1.getD i 0 ∧ p.1.getD i 0 ≤ k) ∧ 0 ≤ p.2 ∧ p.2 ≤ 10001
theorem kV {n : Int} (h : 0 ≤ n) : 0 ≤ capI n ∧ capI n ≤ 10001 := by unfold capI; split <;> omega
theorem dJ {a b : Int} {k : Nat} (h0 : 0 ≤ a) (h1 : a ≤ 10001) (h2 : 0 ≤ b) (h3 : b ≤ k) (hk : k ≤ 100) : 0 ≤ a * b ∧ a * b ≤ 1000100 := by
 refine ⟨Int.mul_nonneg h0 h2, ?_⟩
 have := Int.mul_le_mul h1 (show b ≤ 100 by omega) h2 (by omega)
 omega
theorem SOk.step {k : Nat} {p : List Int × Int} (h : SOk k p) (s : Stp) (hk : k < 100) : SOk (k + 1) (sStep p s) := by
 obtain ⟨h1, h2, h3, h4⟩ := h
 unfold sStep
 cases s.sts with
 | false => exact ⟨h1, fun i => ⟨(h2 i).1, by have := (h2 i).2; show p.1.getD i 0 ≤ ((k + 1 : Nat) : Int); omega⟩, h3, h4⟩
 | true =>
  have hv := h2 s.var.toNat
  have := dJ (k := k + 1) h3 h4 (show 0 ≤ p.1.getD s.var.toNat 0 + 1 by omega) (by omega) (by omega)
  refine ⟨by simp [h1], fun i => ?_, kV this.1⟩
  show 0 ≤ (p.1.set s.var.toNat (p.1.getD s.var.toNat 0 + 1)).getD i 0 ∧ (p.1.set s.var.toNat (p.1.getD s.var.toNat 0 + 1)).getD i 0 ≤ ((k + 1 : Nat) : Int)
  have hi := h2 i
  rw [List.getD_eq_getElem?_getD, List.getElem?_set]
  rw [List.getD_eq_getElem?_getD] at hi
  split
  ·split
   ·simp only [Option.getD_some]; omega
   ·simp only [Option.getD_none]; omega
  ·omega
theorem SOk.all : ∀ (l : List Stp) (k : Nat) (p : List Int × Int), SOk k p → k + l.length ≤ 100 → SOk (k + l.length) (l.foldl sStep p)
 | [], k, p, h, _ => h
 | s :: l, k, p, h, hk => by
  simp only [List.length_cons] at hk ⊢
  have := SOk.all l (k + 1) _ (h.step s (by omega)) (by omega)
  rwa [show k + 1 + l.length = k + (l.length + 1) by omega] at this
theorem st_fz (l : List Stp) : FzR (l.map stO) (l.map stTV) := by
 have : l.map stO = (l.map stTV).map (fun r => r.map .d) := by rw [List.map_map]; rfl
 rw [this]
 exact FzR.d _
theorem mR {s : Stp} (h : s.right = true) (ha : s.acc = true) : 0 ≤ s.var ∧ s.var ≤ 3 := by
 unfold Stp.right at h
 unfold Stp.acc at ha
 simp only [Bool.and_eq_true, decide_eq_true_eq] at ha
 split at h
 ·cases h
 ·split at h
  ·omega
  ·split at h
   ·cases h
   ·simp only [inR, Bool.and_eq_true, decide_eq_true_eq] at h
    omega
theorem setAt_self {l : List OV} {p : Nat} {y : OV} (hp : p < l.length) : (setAt l p [y])[p]? = some y := by
 have h1 : (l.take p).length = p := by rw [List.length_take]; omega
 unfold setAt
 rw [List.append_assoc, List.getElem?_append_right (by omega), h1, Nat.sub_self]
 rfl
theorem vL {α : Type} (l : List α) (d : α) (k : Nat) (h : k < l.length) : l.take (k + 1) = l.take k ++ [l.getD k d] := by
 rw [List.take_add_one, List.getElem?_eq_getElem h, List.getD_eq_getElem?_getD, List.getElem?_eq_getElem h]; rfl
theorem sts_acc {s : Stp} (h : s.sts = true) : s.acc = true := by
 unfold Stp.sts at h
 simp only [Bool.and_eq_true] at h
 exact h.1
theorem lds_acc {s : Stp} (h : s.lds = true) : s.acc = true := by
 unfold Stp.lds at h
 simp only [Bool.and_eq_true] at h
 exact h.1
theorem lG (h : true = false ∨ true = false) : False := by rcases h with h | h <;> cases h
set_option maxHeartbeats 4000000 in
theorem ways_p (t : Ts) (hr : ∀ s ∈ t.flatten, s.right = true) (hl : t.flatten.length ≤ 64) (hn : t.length ≤ 64) : Pure E.P 49 [testOV t] (.int .i64 (waysT t)) := by
 have f1 : Frozen 1 := ⟨trivial⟩
 have f13 : Frozen 13 := ⟨trivial⟩
 have c1 := concat_oT t (by omega) hn
 obtain ⟨all, hall⟩ : ∃ all, all = t.flatten := ⟨_, rfl⟩
 unfold waysT
 rw [← hall] at c1 hr hl ⊢
 refine fnA Tryz.func49 Tryz.ntmps49 ?_
 refine run ?_; refine aoR fun _ => ?_
 refine run ?_; refine aoR fun _ => ?_
 refine run ?_; refine aoR fun _ => ?_
 refine run ?_
 apply S_ownF; assumption; exact rfl; exact .fn _ _ _; exact rfl; exact c1; exact st_fz _; exact rfl
 refine run ?_; refine aoR fun _ => ?_
 refine run ?_; refine aoR fun _ => ?_
 refine run ?_; refine aoR fun _ => ?_
 refine run ?_; rotate_left
 rename_i v0 v1 v2 v3 v4 v5
 obtain ⟨B, hB⟩ : ∃ B, B = sAll all := ⟨_, rfl⟩
 have hS := fun i : Nat => SOk.all (all.take i) 0 ([0, 0, 0, 0], 1) ⟨rfl, fun i => by rcases i with _ | _ | _ | _ | i <;> simp, by decide, by decide⟩ (by simp; omega)
 refine uW (X := Nat) (fun i => tmL [(3, .lo 3 (v1, 0) 4 0 0), (4, .d (.sl 10 (all.map stTV))), (5, .lo 5 (v3, 0) 1 0 0), (6, .fn 115 [] [.lo 5 (v3, 0) 1 0 0]), (15, .d (.sl 10 (all.map stTV))), (16, .int .i64 all.length), (17, .int .i64 i)]) (fun i => stL [(3, ((v1, 0), ⟨4, [manyO (sAll (all.take i)).1]⟩)), (5, ((v3, 0), ⟨1, [[.int .i64 (sAll (all.take i)).2]]⟩))]) (fun i => i ≤ all.length) (fun i => all.length - i) 0 (Nat.zero_le _) (by repeat' (first | exact vY _ | exact vB _ | refine uV rfl ?_ | refine uP rfl ?_ | (refine uY rfl ?_ ?_; (simp)) | (refine uO rfl ?_ ?_; (simp)) | (refine uN rfl ?_ ?_; (simp)))) leP ?_
 intro i hi
 obtain ⟨h1, h2, h3, h4⟩ := hS i
 by_cases hlt : i < all.length
 ·have hx := hr (all.getD i default) (by rw [List.getD_eq_getElem?_getD, List.getElem?_eq_getElem hlt]; exact List.getElem_mem hlt)
  have hst := vL all default i hlt
  have hS1 := hS (i + 1)
  obtain ⟨s, hs⟩ : ∃ s, s = all.getD (i : Int).toNat default := ⟨_, rfl⟩
  have hs' : all.getD i default = s := by rw [hs, Int.toNat_natCast]
  have hb : s.sts = true → 0 ≤ s.var ∧ s.var ≤ 3 := fun h => mR (by rw [← hs']; exact hx) (sts_acc h)
  have c2 := dS s
  have hstep : sAll (all.take (i + 1)) = sStep (sAll (all.take i)) s := by
   rw [hst, hs']; unfold sAll; rw [List.foldl_append]; rfl
  obtain ⟨p, hp⟩ : ∃ p, p = sAll (all.take i) := ⟨_, rfl⟩
  change (sAll (all.take i)).1.length = 4 at h1
  change ∀ j, 0 ≤ (sAll (all.take i)).1.getD j 0 ∧ (sAll (all.take i)).1.getD j 0 ≤ ((0 + (all.take i).length : Nat) : Int) at h2
  change 0 ≤ (sAll (all.take i)).2 at h3
  change (sAll (all.take i)).2 ≤ 10001 at h4
  rw [← hp] at hstep h1 h2 h3 h4 ⊢
  have hti : (all.take i).length ≤ 64 := by rw [List.length_take]; omega
  cases hsts : s.sts with
  | false =>
   rw [hsts] at c2
   refine run ?_; refine aoR fun _ => ?_
   refine run ?_; refine cnd ?_ ?_
   refine uB fun _ => ?_; try omega
   refine run ?_; refine aoR fun _ => ?_
   refine run ?_; refine aoR fun _ => ?_
   refine run ?_
   apply uD; exact rfl; exact .fn _ _ _; exact rfl; rw [← hs]; exact c2
   refine run ?_; refine cnd ?_ ?_
   exact wS
   refine xL ?_; refine run ?_; refine aoR fun _ => ?_
   refine run ?_; rotate_left
   refine uC fun _ => ?_; try omega
   have e : sStep p s = p := by unfold sStep; rw [hsts]; rfl
   rw [e] at hstep
   refine uT (i + 1) (by omega) (by omega) leP ?_
   rw [hstep]
   exact leP
  | true =>
   rw [hsts] at c2
   obtain ⟨hb1, hb2⟩ := hb hsts
   have hv := h2 s.var.toNat
   have hm := dJ (k := 100) h3 h4 (show 0 ≤ p.1.getD s.var.toNat 0 + 1 by omega) (by omega) (by omega)
   subst hs
   refine run ?_; refine aoR fun _ => ?_
   refine run ?_; refine cnd ?_ ?_
   refine uB fun _ => ?_; try omega
   refine run ?_; refine aoR fun _ => ?_
   refine run ?_; refine aoR fun _ => ?_
   refine run ?_
   apply uD; exact rfl; exact .fn _ _ _; exact rfl; exact c2
   refine run ?_; refine cnd ?_ ?_; refine vI ?_; refine run ?_; refine aoR fun _ => ?_
   refine run ?_
   apply vO; exact rfl; exact rfl; exact rfl; exact rfl; exact rfl; (rw [show te3.size = 1 from rfl, Nat.mul_one, Nat.zero_add]; exact uH (f := oneO) (by omega) 0)
   refine run ?_
   apply dQ; exact rfl; exact rfl; exact rfl; exact rfl; exact rfl; exact rfl; exact rfl; (show _ + _ * 1 + 1 ≤ List.length (List.map oneO _); (rw [List.length_map]; omega))
   refine run ?_; refine aoR fun _ => ?_
   refine run ?_
   (apply vO; exact rfl; exact rfl; exact rfl; exact rfl; exact rfl; exact setAt_self (show _ + _ * 1 < List.length (List.map oneO _) by (rw [List.length_map]; omega)))
   apply jB; exact rfl; exact .fn _ _ _; exact rfl; exact gU p.2 _ (hm).1 (Int.le_trans (hm).2 (by decide)) _; exact leP; exact rfl; simp
   refine run ?_; refine aoR fun _ => ?_
   refine run ?_; rotate_left
   exact wR
   refine uC fun _ => ?_; try omega
   have e : sStep p (all.getD (i : Int).toNat default) = (p.1.set (all.getD (i : Int).toNat default).var.toNat (p.1.getD (all.getD (i : Int).toNat default).var.toNat 0 + 1), capI (p.2 * (p.1.getD (all.getD (i : Int).toNat default).var.toNat 0 + 1))) := by unfold sStep; rw [hsts]; rfl
   rw [e] at hstep
   refine uT (i + 1) (by omega) (by omega) leP ?_
   rw [hstep]
   refine uN rfl ?_ (uP rfl (vB _))
   show [setAt (p.1.map oneO) (0 + (all.getD (i : Int).toNat default).var.toNat * 1) [oneO _]] = [manyO _]
   rw [Nat.mul_one, Nat.zero_add, fS _ _ _ _ (by omega)]; rfl
 ·have hil : i = all.length := by omega
  subst hil
  have e2 : sAll (all.take all.length) = B := by rw [List.take_length, hB]
  obtain ⟨g1, g2, g3, g4⟩ : SOk (0 + all.length) B := by have := hS all.length; rw [List.take_length] at this; rw [hB]; exact this
  rw [e2]
  clear hS h1 h2 h3 h4
  refine run ?_; refine aoR fun _ => ?_
  refine run ?_; refine cnd ?_ ?_
  refine uB fun _ => ?_; try omega
  refine uC fun _ => ?_; try omega
  refine run ?_; refine aoR fun _ => ?_
  refine run ?_; rotate_left
  rename_i w1 w2
  refine uW (X := Nat) (fun i => tmL [(3, .lo 3 (v1, 0) 4 0 0), (5, .lo 5 (v3, 0) 1 0 0), (6, .fn 115 [] [.lo 5 (v3, 0) 1 0 0]), (36, .d (.sl 10 (all.map stTV))), (37, .int .i64 all.length), (38, .int .i64 i)]) (fun i => stL [(3, ((v1, 0), ⟨4, [manyO B.1]⟩)), (5, ((v3, 0), ⟨1, [[.int .i64 ((all.take i).foldl (lStep B.1) B.2)]]⟩))]) (fun i => i ≤ all.length ∧ 0 ≤ (all.take i).foldl (lStep B.1) B.2 ∧ (all.take i).foldl (lStep B.1) B.2 ≤ 10001) (fun i => all.length - i) 0 ⟨Nat.zero_le _, by simpa using ⟨g3, g4⟩⟩ (by repeat' (first | exact vY _ | exact vB _ | refine uV rfl ?_ | refine uP rfl ?_ | (refine uY rfl ?_ ?_; (simp)) | (refine uO rfl ?_ ?_; (simp)) | (refine uN rfl ?_ ?_; (simp)))) leP ?_
  rintro i ⟨hi, n0, n1⟩
  by_cases hlt : i < all.length
  ·have hx := hr (all.getD i default) (by rw [List.getD_eq_getElem?_getD, List.getElem?_eq_getElem hlt]; exact List.getElem_mem hlt)
   have hst := vL all default i hlt
   obtain ⟨s, hs⟩ : ∃ s, s = all.getD (i : Int).toNat default := ⟨_, rfl⟩
   have hs' : all.getD i default = s := by rw [hs, Int.toNat_natCast]
   have hb : s.lds = true → 0 ≤ s.var ∧ s.var ≤ 3 := fun h => mR (by rw [← hs']; exact hx) (lds_acc h)
   have c2 := dS s
   have c3 := iH s
   have hstep : (all.take (i + 1)).foldl (lStep B.1) B.2 = lStep B.1 ((all.take i).foldl (lStep B.1) B.2) s := by
    rw [hst, hs', List.foldl_append]; rfl
   obtain ⟨n, hn⟩ : ∃ n, n = (all.take i).foldl (lStep B.1) B.2 := ⟨_, rfl⟩
   rw [← hn] at hstep n0 n1 ⊢
   have hv := g2 s.var.toNat
   have hm := dJ (k := 100) n0 n1 (show 0 ≤ B.1.getD s.var.toNat 0 + 1 by omega) (by omega) (by omega)
   have hm0 := dJ (k := 100) n0 n1 (show 0 ≤ B.1.getD s.var.toNat 0 by omega) (by omega) (by omega)
   subst hs
   cases hl1 : (all.getD (i : Int).toNat default).lds with
   | false =>
    rw [hl1] at c3
    have e : lStep B.1 n (all.getD (i : Int).toNat default) = n := by unfold lStep; rw [hl1]; rfl
    rw [e] at hstep
    refine run ?_; refine aoR fun _ => ?_
    refine run ?_; refine cnd ?_ ?_
    refine uB fun _ => ?_; try omega
    refine run ?_; refine aoR fun _ => ?_
    refine run ?_; refine aoR fun _ => ?_
    refine run ?_
    apply uD; exact rfl; exact .fn _ _ _; exact rfl; exact c3
    refine run ?_; refine cnd ?_ ?_
    exact wS
    refine xL ?_; refine run ?_; refine aoR fun _ => ?_
    refine run ?_
    apply uD; exact rfl; exact .fn _ _ _; exact rfl; exact c3
    refine run ?_; refine cnd ?_ ?_
    exact wS
    refine xL ?_; refine run ?_; refine aoR fun _ => ?_
    refine run ?_; rotate_left
    refine uC fun _ => ?_; try omega
    refine uT (i + 1) ⟨by omega, by rw [hstep]; exact ⟨n0, n1⟩⟩ (by omega) leP ?_
    rw [hstep]
    exact leP
   | true =>
    rw [hl1] at c3
    obtain ⟨hb1, hb2⟩ := hb hl1
    cases hs1 : (all.getD (i : Int).toNat default).sts with
    | true =>
     rw [hs1] at c2
     have e : lStep B.1 n (all.getD (i : Int).toNat default) = capI (n * B.1.getD (all.getD (i : Int).toNat default).var.toNat 0) := by unfold lStep; rw [hl1, hs1]; rfl
     rw [e] at hstep
     refine run ?_; refine aoR fun _ => ?_
     refine run ?_; refine cnd ?_ ?_
     refine uB fun _ => ?_; try omega
     refine run ?_; refine aoR fun _ => ?_
     refine run ?_; refine aoR fun _ => ?_
     refine run ?_
     apply uD; exact rfl; exact .fn _ _ _; exact rfl; exact c3
     refine run ?_
     apply spT; exact rfl
     intro hc_
     have hp_ := hc_; try simp only [nrm] at hp_
     apply uI; (exact EvM.plain rfl rfl); exact .fn _ _ _; exact vF; exact c2
     refine run ?_; refine cnd ?_ ?_; refine zG ?_
     iterate 2 refine vI ?_
     refine aoR fun _ => ?_; refine run ?_
     apply vO; exact rfl; exact rfl; exact rfl; exact rfl; exact rfl; (rw [show te3.size = 1 from rfl, Nat.mul_one, Nat.zero_add]; exact uH (f := oneO) (by omega) 0)
     apply jB; exact rfl; exact .fn _ _ _; exact rfl; exact gU n _ (hm0).1 (Int.le_trans (hm0).2 (by decide)) _; exact leP; exact rfl; simp
     refine run ?_; refine aoR fun _ => ?_
     refine run ?_; rotate_left
     refine zH (fun hc_ => ?_); (try simp only [nrm] at hc_)
     refine run ?_; refine aoR fun _ => ?_
     refine run ?_
     apply uD; exact rfl; exact .fn _ _ _; exact rfl; exact c3
     refine run ?_; refine cnd ?_ ?_; refine vI ?_; refine aoR fun _ => ?_
     refine run ?_
     apply vO; exact rfl; exact rfl; exact rfl; exact rfl; exact rfl; (rw [show te3.size = 1 from rfl, Nat.mul_one, Nat.zero_add]; exact uH (f := oneO) (by omega) 0)
     refine run ?_; rotate_left
     exact wR
     refine uC fun _ => ?_; try omega
     all_goals try (exact (lG ‹_›).elim)
     refine uT (i + 1) ⟨by omega, by rw [hstep]; exact kV hm0.1⟩ (by omega) leP ?_
     rw [hstep]
     exact leP
    | false =>
     rw [hs1] at c2
     have e : lStep B.1 n (all.getD (i : Int).toNat default) = capI (n * (B.1.getD (all.getD (i : Int).toNat default).var.toNat 0 + 1)) := by unfold lStep; rw [hl1, hs1]; rfl
     rw [e] at hstep
     refine run ?_; refine aoR fun _ => ?_
     refine run ?_; refine cnd ?_ ?_
     refine uB fun _ => ?_; try omega
     refine run ?_; refine aoR fun _ => ?_
     refine run ?_; refine aoR fun _ => ?_
     refine run ?_
     apply uD; exact rfl; exact .fn _ _ _; exact rfl; exact c3
     refine run ?_
     apply spT; exact rfl
     intro hc_
     have hp_ := hc_; try simp only [nrm] at hp_
     apply uI; (exact EvM.plain rfl rfl); exact .fn _ _ _; exact vF; exact c2
     refine run ?_; refine cnd ?_ ?_; refine zG ?_; refine vI ?_
     exact wS
     refine zH (fun hc_ => ?_); (try simp only [nrm] at hc_)
     refine run ?_; refine aoR fun _ => ?_
     refine run ?_
     apply uD; exact rfl; exact .fn _ _ _; exact rfl; exact c3
     refine run ?_; refine cnd ?_ ?_; refine vI ?_; refine aoR fun _ => ?_
     refine run ?_
     apply vO; exact rfl; exact rfl; exact rfl; exact rfl; exact rfl; (rw [show te3.size = 1 from rfl, Nat.mul_one, Nat.zero_add]; exact uH (f := oneO) (by omega) 0)
     refine run ?_
     apply jB; exact rfl; exact .fn _ _ _; exact rfl; exact gU n _ (hm).1 (Int.le_trans (hm).2 (by decide)) _; exact leP; exact rfl; simp
     refine run ?_; refine aoR fun _ => ?_
     refine run ?_; rotate_left
     exact wR
     refine uC fun _ => ?_; try omega
     refine uT (i + 1) ⟨by omega, by rw [hstep]; exact kV hm.1⟩ (by omega) leP ?_
     rw [hstep]
     exact leP
  ·have hil : i = all.length := by omega
   subst hil
   refine run ?_; refine aoR fun _ => ?_
   refine run ?_; refine cnd ?_ ?_
   refine uB fun _ => ?_; try omega
   refine uC fun _ => ?_; try omega
   refine run ?_; refine aoR fun _ => ?_
   refine run ?_; rotate_left
   refine xZ rfl ?_
   rw [List.take_length, hB]
set_option maxRecDepth 100000
theorem zN : ∀ (l : Ts) (n : Nat), (∀ x ∈ l, x.length ≤ n) → l.flatten.length ≤ l.length * n
 | [], _, _ => by simp
 | a :: l, n, h => by
  have h1 := h a (by simp)
  have h2 := zN l n fun x hx => h x (by simp [hx])
  rw [List.flatten_cons, List.length_append, List.length_cons, Nat.succ_mul]
  omega
theorem zU (a b : List Stp) : accs (a ++ b) = accs a + accs b := by unfold accs; rw [List.filter_append, List.length_append]
theorem kK (s : Stp) : accs [s] = if s.acc then 1 else 0 := by unfold accs; cases h : s.acc <;> simp [h]
theorem iY (a : List Stp) : accs a ≤ a.length := List.length_filter_le _ _
theorem vM {α : Type} {l : List α} {d : α} {k : Nat} (h : k < l.length) : l.getD k d ∈ l := by
 rw [List.getD_eq_getElem?_getD, List.getElem?_eq_getElem h]; exact List.getElem_mem h
set_option maxHeartbeats 4000000 in
theorem eW (t : Ts) : Pure E.P 20 [testOV t] (.int .i64 (checkT t)) := by
 have f1 : Frozen 1 := ⟨trivial⟩
 have f7 : Frozen 7 := ⟨trivial⟩
 refine fnA Tryz.func20 Tryz.ntmps20 ?_
 by_cases h0 : t.length < 1 ∨ 4 < t.length
 ·have e : checkT t = 2 := by unfold checkT; rw [if_pos h0]
  rw [e]
  refine run ?_; refine aoR fun _ => ?_
  refine run ?_; refine aoR fun _ => ?_
  refine run ?_; refine cnd ?_ ?_
  refine yR (fun hc_ => ?_); (try simp only [nrm] at hc_)
  refine run ?_; refine aoR fun _ => ?_
  refine run ?_; rotate_left
  refine yS ?_
  iterate 2 refine uC fun _ => ?_; try omega
  all_goals first | exact xZ rfl rfl | (exfalso; omega)
 ·have hn1 : 1 ≤ t.length := by omega
  have hn4 : t.length ≤ 4 := by omega
  refine run ?_; refine aoR fun _ => ?_
  refine run ?_; refine aoR fun _ => ?_
  refine run ?_; refine cnd ?_ ?_
  refine yR (fun hc_ => ?_); (try simp only [nrm] at hc_)
  refine run ?_; refine aoR fun _ => ?_
  refine run ?_; rotate_left
  refine yS ?_
  iterate 2 refine uC fun _ => ?_; try omega
  refine run ?_; refine aoR fun _ => ?_
  refine run ?_; refine aoR fun _ => ?_
  refine run ?_; rotate_left
  all_goals try omega
  refine uW (X := Nat) (fun i => tmL [(1, .d (.pt [.sl 1 (t.map catRowT)] 0)), (3, .int .i64 (accs (t.take i).flatten)), (19, .d (.sl 1 (t.map catRowT))), (20, .int .i64 t.length), (21, .int .i64 i)]) (fun _ => stL []) (fun i => i ≤ t.length ∧ (t.take i).all threadOk = true) (fun i => t.length - i) 0 ⟨Nat.zero_le _, rfl⟩ (by repeat' (first | exact vY _ | exact vB _ | refine uV rfl ?_ | refine uP rfl ?_ | (refine uY rfl ?_ ?_; (simp)) | (refine uO rfl ?_ ?_; (simp)) | (refine uN rfl ?_ ?_; (simp)))) leP ?_
  rintro i ⟨hi, hok⟩
  have hfl : (t.take i).flatten.length ≤ 64 := by
   have := zN (t.take i) 16 fun x hx => by
    have h := List.all_eq_true.1 hok x hx
    unfold threadOk at h
    simp only [Bool.and_eq_true, decide_eq_true_eq] at h
    exact h.1
   rw [List.length_take] at this; omega
  have hac := iY (t.take i).flatten
  by_cases hlt : i < t.length
  ·have hst := vL t default i hlt
   obtain ⟨l, hl⟩ : ∃ l, l = t.getD (i : Int).toNat default := ⟨_, rfl⟩
   have hl' : t.getD i default = l := by rw [hl, Int.toNat_natCast]
   rw [hl'] at hst
   by_cases h16 : 16 < l.length
   ·have e : checkT t = 2 := by
     have hno : t.all threadOk = false := by
      rw [List.all_eq_false]
      refine ⟨l, by rw [← hl']; exact vM hlt, ?_⟩
      unfold threadOk
      rw [decide_eq_false (by omega)]; simp
     unfold checkT
     rw [if_neg h0, if_pos hno]
    rw [e]
    subst hl
    refine run ?_; refine aoR fun _ => ?_
    refine run ?_; refine cnd ?_ ?_
    refine uB fun _ => ?_; try omega
    refine run ?_; refine aoR fun _ => ?_
    refine run ?_; refine aoR fun _ => ?_
    refine run ?_; refine cnd ?_ ?_
    refine uB fun _ => ?_; try omega
    refine run ?_; refine aoR fun _ => ?_
    refine run ?_; rotate_left
    iterate 2 refine uC fun _ => ?_; try omega
    all_goals first | exact xZ rfl rfl | (exfalso; omega)
   ·have h16' : l.length ≤ 16 := by omega
    subst hl
    refine run ?_; refine aoR fun _ => ?_
    refine run ?_; refine cnd ?_ ?_
    refine uB fun _ => ?_; try omega
    refine run ?_; refine aoR fun _ => ?_
    refine run ?_; refine aoR fun _ => ?_
    refine run ?_; refine cnd ?_ ?_
    refine uB fun _ => ?_; try omega
    refine uC fun _ => ?_; try omega
    refine run ?_; refine aoR fun _ => ?_
    refine run ?_; rotate_left
    refine uC fun _ => ?_; try omega
    refine uW (X := Nat) (fun k => tmL [(1, .d (.pt [.sl 1 (t.map catRowT)] 0)), (3, .int .i64 ((accs (t.take i).flatten : Int) + (accs ((t.getD (i : Int).toNat default).take k) : Int))), (19, .d (.sl 1 (t.map catRowT))), (20, .int .i64 t.length), (21, .int .i64 i), (28, .d (.sl 10 ((t.getD (i : Int).toNat default).map stTV))), (29, .int .i64 (t.getD (i : Int).toNat default).length), (30, .int .i64 k)]) (fun _ => stL []) (fun k => k ≤ (t.getD (i : Int).toNat default).length ∧ ((t.getD (i : Int).toNat default).take k).all Stp.right = true) (fun k => (t.getD (i : Int).toNat default).length - k) 0 ⟨Nat.zero_le _, rfl⟩ (by repeat' (first | exact vY _ | exact vB _ | refine uV rfl ?_ | refine uP rfl ?_ | (refine uY rfl ?_ ?_; (simp [accs])) | (refine uO rfl ?_ ?_; (simp [accs])) | (refine uN rfl ?_ ?_; (simp [accs])))) leP ?_
    rintro k ⟨hk, hkr⟩
    have hak := iY ((t.getD (i : Int).toNat default).take k)
    have hkl : ((t.getD (i : Int).toNat default).take k).length ≤ 16 := by rw [List.length_take]; omega
    by_cases hlk : k < (t.getD (i : Int).toNat default).length
    ·have hsk := vL (t.getD (i : Int).toNat default) default k hlk
     obtain ⟨s, hs⟩ : ∃ s, s = (t.getD (i : Int).toNat default).getD (k : Int).toNat default := ⟨_, rfl⟩
     have hs' : (t.getD (i : Int).toNat default).getD k default = s := by rw [hs]; rfl
     rw [hs'] at hsk
     have c1 := right9_p s
     have c2 := aP s
     cases hsr : s.right with
     | false =>
      rw [hsr] at c1
      have e : checkT t = 2 := by
       have hno : t.all threadOk = false := by
        rw [List.all_eq_false]
        refine ⟨t.getD i default, vM hlt, ?_⟩
        unfold threadOk
        rw [show t.getD i default = t.getD (i : Int).toNat default from hl']
        rw [List.all_eq_false.2 ⟨s, by rw [← hs']; exact vM hlk, by rw [hsr]; decide⟩]; simp
       unfold checkT
       rw [if_neg h0, if_pos hno]
      rw [e]
      subst hs
      refine run ?_; refine aoR fun _ => ?_
      refine run ?_; refine cnd ?_ ?_
      refine uB fun _ => ?_; try omega
      refine run ?_; refine aoR fun _ => ?_
      refine run ?_; refine aoR fun _ => ?_
      refine run ?_
      apply uD; exact rfl; exact .fn _ _ _; exact rfl; exact c1
      refine run ?_; refine cnd ?_ ?_; refine zM ?_; refine xL ?_; refine run ?_; refine aoR fun _ => ?_
      refine run ?_; rotate_left
      refine wD ?_
      exact wS
      refine uC fun _ => ?_; try omega
      all_goals exact xZ rfl rfl
     | true =>
      rw [hsr] at c1
      have hak1 : accs ((t.getD (i : Int).toNat default).take (k + 1)) = accs ((t.getD (i : Int).toNat default).take k) + (if s.acc then 1 else 0) := by
       rw [hsk, zU]
       rw [kK]
      have hkr1 : ((t.getD (i : Int).toNat default).take (k + 1)).all Stp.right = true := by
       rw [hsk, List.all_append, hkr]; simp [hsr]
      cases hsa : s.acc with
      | false =>
       rw [hsa] at c2 hak1
       subst hs
       refine run ?_; refine aoR fun _ => ?_
       refine run ?_; refine cnd ?_ ?_
       refine uB fun _ => ?_; try omega
       refine run ?_; refine aoR fun _ => ?_
       refine run ?_; refine aoR fun _ => ?_
       refine run ?_
       apply uD; exact rfl; exact .fn _ _ _; exact rfl; exact c1
       refine run ?_; refine cnd ?_ ?_; refine zM ?_
       exact wR
       refine wD ?_; refine vI ?_; refine run ?_; refine aoR fun _ => ?_
       refine run ?_
       apply uD; exact rfl; exact .fn _ _ _; exact rfl; exact c2
       refine run ?_; refine cnd ?_ ?_
       exact wS
       refine xL ?_; refine run ?_; refine aoR fun _ => ?_
       refine run ?_; rotate_left
       refine uC fun _ => ?_; try omega
       refine uT (k + 1) ⟨by omega, hkr1⟩ (by omega) (by repeat' (first | exact vY _ | exact vB _ | refine uV rfl ?_ | refine uP rfl ?_ | (refine uY rfl ?_ ?_; (rw [hak1]; simp)) | (refine uO rfl ?_ ?_; (rw [hak1]; simp)) | (refine uN rfl ?_ ?_; (rw [hak1]; simp)))) leP
      | true =>
       rw [hsa] at c2 hak1
       subst hs
       refine run ?_; refine aoR fun _ => ?_
       refine run ?_; refine cnd ?_ ?_
       refine uB fun _ => ?_; try omega
       refine run ?_; refine aoR fun _ => ?_
       refine run ?_; refine aoR fun _ => ?_
       refine run ?_
       apply uD; exact rfl; exact .fn _ _ _; exact rfl; exact c1
       refine run ?_; refine cnd ?_ ?_; refine zM ?_
       exact wR
       refine wD ?_; refine vI ?_; refine run ?_; refine aoR fun _ => ?_
       refine run ?_
       apply uD; exact rfl; exact .fn _ _ _; exact rfl; exact c2
       refine run ?_; refine cnd ?_ ?_; refine vI ?_; refine aoR fun _ => ?_
       refine run ?_; refine aoR fun _ => ?_
       refine run ?_; rotate_left
       exact wR
       refine uC fun _ => ?_; try omega
       refine uT (k + 1) ⟨by omega, hkr1⟩ (by omega) (by repeat' (first | exact vY _ | exact vB _ | refine uV rfl ?_ | refine uP rfl ?_ | (refine uY rfl ?_ ?_; (rw [hak1]; simp; omega)) | (refine uO rfl ?_ ?_; (rw [hak1]; simp; omega)) | (refine uN rfl ?_ ?_; (rw [hak1]; simp; omega)))) leP
    ·have hkk : k = (t.getD (i : Int).toNat default).length := by omega
     subst hkk
     refine run ?_; refine aoR fun _ => ?_
     refine run ?_; refine cnd ?_ ?_
     refine uB fun _ => ?_; try omega
     refine uC fun _ => ?_; try omega
     refine run ?_; refine aoR fun _ => ?_
     refine run ?_; rotate_left
     rw [List.take_length] at hkr
     have hf : (t.take (i + 1)).flatten = (t.take i).flatten ++ t.getD (i : Int).toNat default := by rw [hst, List.flatten_append]; simp
     refine uT (i + 1) ⟨by omega, ?_⟩ (by omega) (by repeat' (first | exact vY _ | exact vB _ | refine uV rfl ?_ | refine uP rfl ?_ | (refine uY rfl ?_ ?_; (rw [hf, zU, List.take_length]; simp)) | (refine uO rfl ?_ ?_; (rw [hf, zU, List.take_length]; simp)) | (refine uN rfl ?_ ?_; (rw [hf, zU, List.take_length]; simp)))) leP
     rw [hst, List.all_append, hok]
     simp only [List.all_cons, List.all_nil, Bool.and_true, Bool.true_and]
     unfold threadOk
     rw [hkr, decide_eq_true h16']; rfl
  ·have hil : i = t.length := by omega
   subst hil
   rw [List.take_length] at hok hfl hac ⊢
   have hr : ∀ s ∈ t.flatten, s.right = true := fun s hs => by
    obtain ⟨l, hl, hs⟩ := List.mem_flatten.1 hs
    have h := List.all_eq_true.1 hok l hl
    unfold threadOk at h
    simp only [Bool.and_eq_true] at h
    exact List.all_eq_true.1 h.2 s hs
   have c1 := ways_p t hr hfl (by omega)
   have e : checkT t = if 8 < accs t.flatten ∨ 10000 < waysT t then 2 else 0 := by
    unfold checkT
    rw [if_neg h0, if_neg (by rw [hok]; decide)]
   rw [e]
   refine run ?_; refine aoR fun _ => ?_
   refine run ?_; refine cnd ?_ ?_
   refine uB fun _ => ?_; try omega
   refine uC fun _ => ?_; try omega
   refine run ?_; refine aoR fun _ => ?_
   refine run ?_
   apply spF; exact rfl
   intro hc_
   have hp_ := hc_; try simp only [nrm] at hp_
   apply uI; (exact EvM.plain rfl rfl); exact .fn _ _ _; exact vF; exact c1
   refine run ?_; refine cnd ?_ ?_
   refine yR (fun hc_ => ?_); (try simp only [nrm] at hc_)
   refine run ?_; refine aoR fun _ => ?_
   refine run ?_; rotate_left
   refine yS ?_
   iterate 2 refine uC fun _ => ?_; try omega
   refine run ?_; refine aoR fun _ => ?_
   refine run ?_; rotate_left
   all_goals (refine xZ rfl ?_; split <;> first | rfl | (exfalso; omega))
open Go.Shelf Go.RowKit Go.Sort Go.Lib
theorem Pow10.kn {w : World} (h : Pow10 w) : KN (allM w) := fun i hi => h i hi
theorem Pow10.below {w w' : World} (h : Pow10 w) (hb : Below w.heap.size w w') : Pow10 w' := fun i hi => by
 have h0 := h i hi
 exact (hb.cell (p := ⟨1, i, none⟩) (World.block_lt_of_cell? w ⟨1, i, none⟩ h0)).trans h0
theorem kW {f : FuncId} {args : List OV} {x : Value} (h : Pure Tryz.prog f args (.d (.c x))) {w : World} (hP : Pow10 w) {vs : List Value} (hv : RepOL (allG w hP.kn) args vs) :
  Calls Tryz.prog f vs.toArray w fun e w' => e = .returned x ∧ Below w.heap.size w w' :=
 (h.2 (allG w hP.kn) w vs 0 hv (WRel.all w hP.kn 0)).mono fun e w' ⟨y, G', r, σ', h1, h2, h3, h4, h5⟩ => by
  subst h2
  rw [vA h4] at h1
  exact ⟨h1, ⟨h5.os, h5.tape, h5.output, h5.size, fun k hk => h5.keep k hk (fun e => e)⟩⟩
theorem allM_below {w w' : World} (hb : Below w.heap.size w w') : (allM w).le (allM w') := fun b o v h => by
 have h0 : w.cell? ⟨b, o, none⟩ = some v := h
 exact (hb.cell (p := ⟨b, o, none⟩) (World.block_lt_of_cell? w ⟨b, o, none⟩ h0)).trans h0
theorem check_c {t : Ts} {w : World} (hP : Pow10 w) {sl : Value} (hr : Rep (allM w) (.sl 1 (t.map catRowT)) sl) : Calls Tryz.prog 20 #[.agg #[sl]] w fun e w' => e = .returned (.int .i64 (checkT t)) ∧ Below w.heap.size w w' :=
 kW (eW t) hP (vs := [.agg #[sl]]) (by
  rw [RepOL]
  refine ⟨_, _, rfl, ?_, by rw [RepOL]⟩
  unfold testOV
  rw [RepO]
  refine ⟨_, rfl, ?_⟩
  rw [RepOL]
  exact ⟨_, _, rfl, by rw [RepO]; exact hr, by rw [RepOL]⟩)
def stV (s : Stp) : Value := .agg #[.int .i64 s.kind, .int .i64 s.reg, .int .i64 s.var, .int .u32 s.num, .int .i64 s.data, .int .i64 s.byr, .bool s.aq, .bool s.rl, .int .i64 s.pred, .int .i64 s.succ]
theorem rep_stV (G : Gh) (s : Stp) : RepO G (stOV s) (stV s) := by
 unfold stOV stTV stV
 rw [RepO]
 refine ⟨_, rfl, ?_⟩
 simp only [List.map_cons, List.map_nil]
 repeat' (first | (rw [RepOL]; refine ⟨_, _, rfl, xB rfl, ?_⟩) | rw [RepOL])
theorem line_c {s : Stp} (hr : s.right = true) (hn : s.n32) {w : World} (hP : Pow10 w) : Calls Tryz.prog 67 #[stV s] w fun e w' => e = .returned (.string ⟨(lineB s).toArray⟩) ∧ Below w.heap.size w w' :=
 kW (line_p oF s hr hn) hP (vs := [stV s]) (by
  rw [RepOL]
  exact ⟨_, _, rfl, rep_stV _ s, by rw [RepOL]⟩)
def StepsAt (w : World) (l : List Stp) (v : Value) : Prop := ∃ a c, v = .slice a l.length c ∧ (l = [] ∨ ∃ b off, a = some ⟨b, off, none⟩ ∧ b < w.heap.size ∧ ∀ k, k < l.length → ∀ o, o < 10 → w.cell? ⟨b, off + k * 10 + o, none⟩ = some (match stV (l.getD k default) with | .agg cs => cs.getD o undef | x => x))
def ThreadsAt (w : World) (t : Ts) (v : Value) : Prop := ∃ a c, v = .slice a t.length c ∧ (t = [] ∨ ∃ b off, a = some ⟨b, off, none⟩ ∧ b < w.heap.size ∧ ∀ i, i < t.length → ∃ v, w.cell? ⟨b, off + i, none⟩ = some v ∧ StepsAt w (t.getD i []) v)
theorem stepsAt_of {w : World} {l : List Stp} {v : Value} (h : Rep (allM w) (.sl 10 (l.map stTV)) v) : StepsAt w l v := by
 rw [Rep] at h
 obtain ⟨a, c, rfl, h1, h2⟩ := h
 refine ⟨a, c, by rw [List.length_map], ?_⟩
 rcases h2 with h2 | ⟨b, off, rfl, h3⟩
 ·exact Or.inl (List.map_eq_nil_iff.1 h2)
 ·cases l with
  | nil => exact Or.inl rfl
  | cons s0 l0 =>
   have key : ∀ k, k < (s0 :: l0).length → ∀ o, o < 10 → w.cell? ⟨b, off + k * 10 + o, none⟩ = some (match stV ((s0 :: l0).getD k default) with | .agg cs => cs.getD o undef | x => x) := fun k hk o ho => by
    have h4 : ((s0 :: l0).map stTV)[k]? = some (stTV ((s0 :: l0).getD k default)) := by
     rw [List.getElem?_map, List.getD_eq_getElem?_getD, List.getElem?_eq_getElem hk]; rfl
    obtain ⟨_, h5⟩ := h3.get h4
    generalize (s0 :: l0).getD k default = s at h5 ⊢
    have h6 : ∃ x, (stTV s)[o]? = some (.c x) ∧ x.oneCell' = true ∧ (match stV s with | .agg cs => cs.getD o undef | x => x) = x := by
     rcases (by omega : o = 0 ∨ o = 1 ∨ o = 2 ∨ o = 3 ∨ o = 4 ∨ o = 5 ∨ o = 6 ∨ o = 7 ∨ o = 8 ∨ o = 9) with rfl | rfl | rfl | rfl | rfl | rfl | rfl | rfl | rfl | rfl <;> exact ⟨_, rfl, rfl, rfl⟩
    obtain ⟨x, h7, _, h8⟩ := h6
    obtain ⟨v, h9, h10⟩ := h5.get h7
    rw [Rep] at h10
    rw [h8, ← h10.1]
    exact h9
   exact Or.inr ⟨b, off, rfl, World.block_lt_of_cell? w ⟨b, off + 0 * 10 + 0, none⟩ (key 0 (by simp) 0 (by omega)), key⟩
theorem threadsAt_of {w : World} {t : Ts} {v : Value} (h : Rep (allM w) (.sl 1 (t.map catRowT)) v) : ThreadsAt w t v := by
 rw [Rep] at h
 obtain ⟨a, c, rfl, h1, h2⟩ := h
 refine ⟨a, c, by rw [List.length_map], ?_⟩
 rcases h2 with h2 | ⟨b, off, rfl, h3⟩
 ·exact Or.inl (List.map_eq_nil_iff.1 h2)
 ·cases t with
  | nil => exact Or.inl rfl
  | cons s0 l0 =>
   have key : ∀ i, i < (s0 :: l0).length → ∃ v, w.cell? ⟨b, off + i, none⟩ = some v ∧ StepsAt w ((s0 :: l0).getD i []) v := fun i hi => by
    have h4 : ((s0 :: l0).map catRowT)[i]? = some (catRowT ((s0 :: l0).getD i [])) := by
     rw [List.getElem?_map, List.getD_eq_getElem?_getD, List.getElem?_eq_getElem hi]; rfl
    obtain ⟨_, h5⟩ := h3.get h4
    obtain ⟨v, h9, h10⟩ := h5.get (o := 0) (t := stsTV ((s0 :: l0).getD i [])) rfl
    rw [Nat.mul_one, Nat.add_zero] at h9
    exact ⟨v, h9, stepsAt_of h10⟩
   obtain ⟨v, h, _⟩ := key 0 (by simp)
   exact Or.inr ⟨b, off, rfl, World.block_lt_of_cell? w ⟨b, off + 0, none⟩ h, key⟩
theorem StepsAt.below {w w' : World} {l : List Stp} {v : Value} {B : Nat} (h : StepsAt w l v) (hB : w.heap.size ≤ B) (hb : Below B w w') : StepsAt w' l v := by
 obtain ⟨a, c, h1, h2⟩ := h
 refine ⟨a, c, h1, h2.imp id fun ⟨b, off, h3, h4, h5⟩ => ⟨b, off, h3, ?_, fun k hk o ho => ?_⟩⟩
 ·have := hb.size; omega
 ·rw [hb.cell (p := ⟨b, off + k * 10 + o, none⟩) (show b < B by omega)]; exact h5 k hk o ho
theorem ThreadsAt.below {w w' : World} {t : Ts} {v : Value} {B : Nat} (h : ThreadsAt w t v) (hB : w.heap.size ≤ B) (hb : Below B w w') : ThreadsAt w' t v := by
 obtain ⟨a, c, h1, h2⟩ := h
 refine ⟨a, c, h1, h2.imp id fun ⟨b, off, h3, h4, h5⟩ => ⟨b, off, h3, ?_, fun i hi => ?_⟩⟩
 ·have := hb.size; omega
 ·obtain ⟨v, h6, h7⟩ := h5 i hi
  exact ⟨v, by rw [hb.cell (p := ⟨b, off + i, none⟩) (show b < B by omega)]; exact h6, h7.below hB hb⟩
theorem dA (t : Ts) (i : Nat) (hi : i < t.length) : printT (t.take (i + 1)) = printT (t.take i) ++ threadB (t.getD i []) := by
 unfold printT
 rw [List.take_succ_eq_append_getElem hi, List.map_append, List.flatten_append, List.getD_eq_getElem?_getD, List.getElem?_eq_getElem hi]
 simp
def linesB (l : List Stp) : Bt := (l.map fun s => lineB s ++ [10]).flatten
theorem dB (l : List Stp) (k : Nat) (hk : k < l.length) : linesB (l.take (k + 1)) = linesB (l.take k) ++ (lineB (l.getD k default) ++ [10]) := by
 unfold linesB
 rw [List.take_succ_eq_append_getElem hk, List.map_append, List.flatten_append, List.getD_eq_getElem?_getD, List.getElem?_eq_getElem hk]
 simp
abbrev BldAt (b : Nat) (l : Bt) (w : World) : Prop := Lib.IsBuilder 121 5 b b (Lib.byteCells l) w
theorem gL {b : Nat} {l : Bt} {w w' : World} (h : BldAt b l w) (hb : Below w.heap.size w w') : BldAt b l w' := by
 have key : ∀ p, Lib.BuilderAt 121 5 b b p (Lib.byteCells l) w → Lib.BuilderAt 121 5 b b p (Lib.byteCells l) w' := fun p h => by
  have hlt := h.lt
  obtain ⟨h1, v, h2, h3, h4⟩ := h
  refine ⟨h1, v, (hb.block b hlt).trans h2, ?_, h4⟩
  refine ⟨h3.1, h3.2.imp id fun ⟨g, cap, cur, g1, g2, g3, g4⟩ => ⟨g, cap, cur, g1, g2, ?_, g4⟩⟩
  exact (hb.block g (Array.getElem?_eq_some_iff.1 g3).1).trans g3
 exact h.imp (key _) (key _)
theorem nP {b : Nat} {l : Bt} {w : World} (h : BldAt b l w) : b < w.heap.size := by
 rcases h with h | h <;> exact h.lt
theorem strCells_bs (l : Bt) : Lib.strCells ⟨l.toArray⟩ = Lib.byteCells l := by simp [Lib.strCells, Lib.byteCells]
theorem lC {b : Nat} {l s : Bt} {w : World} (h : BldAt b l w) (hlen : l.length + s.length ≤ 100000) (hBw : b ≤ w.heap.size) :
  Calls Tryz.prog 66 #[.pointer (some ⟨b, 0, none⟩), .string ⟨s.toArray⟩] w fun e w' => e = .returned (.tuple #[.int .i64 s.length, .nilIface]) ∧ BldAt b (l ++ s) w' ∧ Below b w w' := by
 refine (write_c b b (Lib.byteCells l) ⟨s.toArray⟩ w h ?_ hBw).mono fun e w' ⟨h1, h2, h3⟩ => ⟨?_, ?_, h3⟩
 ·simp [Lib.byteCells, ByteArray.size]; omega
 ·rw [h1]; simp [ByteArray.size]
 ·rw [strCells_bs] at h2
  have e : Lib.byteCells (l ++ s) = Lib.byteCells l ++ Lib.byteCells s := by simp [Lib.byteCells]
  show Lib.IsBuilder _ _ _ _ _ _
  rw [e]
  exact Or.inr h2
set_option maxRecDepth 100000 in
set_option maxHeartbeats 4000000 in
theorem print_c (t : Ts) (hc : checkT t = 0) (hn : n32T t) (w : World) (a : Option Addr) (c : Nat) (hP : Pow10 w) (hrep : Rep (allM w) (.sl 1 (t.map catRowT)) (.slice a t.length c)) :
  Calls Tryz.prog 32 #[.agg #[.slice a t.length c]] w fun e w' => e = .returned (.tuple #[.string ⟨(printT t).toArray⟩, .int .i64 0]) ∧ Below w.heap.size w w' := by
 obtain ⟨hk1, hk4, hok⟩ := cK hc
 have e1 : ∀ args w, (callFunc 20 args).run Tryz.prog w = .ok (.enter 20 args) w := enters_of Tryz.func20 (by kernel_rfl) rfl
 have e2 : ∀ args w, (callFunc 66 args).run Tryz.prog w = .ok (.enter 66 args) w := enters_of Tryz.func66 (by kernel_rfl) rfl
 have e3 : ∀ args w, (callFunc 68 args).run Tryz.prog w = .ok (.enter 68 args) w := enters_of Tryz.func68 (by kernel_rfl) rfl
 have e4 : ∀ args w, (callFunc 67 args).run Tryz.prog w = .ok (.enter 67 args) w := enters_of Tryz.func67 (by kernel_rfl) rfl
 have hT0 := threadsAt_of hrep
 have hb0 : Below w.heap.size w (w.alloc (.cells #[.slice a t.length c] 27)) := (Below.refl _ _).alloc (Nat.le_refl _) _
 have CC : Hid (Calls Tryz.prog 20 #[.agg #[.slice a t.length c]] (w.alloc (.cells #[.slice a t.length c] 27)) fun e w' => e = .returned (.int .i64 0) ∧ Below (w.alloc (.cells #[.slice a t.length c] 27)).heap.size (w.alloc (.cells #[.slice a t.length c] 27)) w') := Lib.hid (by
  have := check_c (hP.below hb0) (hrep.mono (allM_below hb0) _ _)
  rw [hc] at this
  exact this)
 have HT := Lib.hid hT0
 have HOK := Lib.hid hok
 have HN := Lib.hid hn
 have HP := Lib.hid hP
 clear hrep hT0 hb0 hok hn hP hc
 go_enter Tryz.func32, Tryz.ntmps32
 go_wp2_with (go_at_call 20; refine CC.out.mono ?_)
 rintro e w1 ⟨rfl, hb1⟩
 have d0 : w1.cell? ⟨w.heap.size, 0, none⟩ = some (.slice a t.length c) := (hb1.cell (p := ⟨w.heap.size, 0, none⟩) (by simp)).trans (by rw [World.cell?_alloc_new]; rfl)
 have z1 : w.heap.size < w1.heap.size := by
  have := hb1.size
  simp at this
  omega
 have HB1 : Hid (Below w.heap.size w w1) := Lib.hid (((Below.refl w.heap.size w).alloc (Nat.le_refl _) _).trans (hb1.mono (by simp)))
 clear hb1
 go_wp2
 have HT1 : Hid (ThreadsAt w1 t (.slice a t.length c)) := Lib.hid (HT.out.below (Nat.le_refl _) HB1.out)
 have HP1 : Hid (Pow10 w1) := Lib.hid (HP.out.below HB1.out)
 go_loopw [18] (fun i wr => ∃ k : Nat, k ≤ t.length ∧ i = .int .i64 k ∧ BldAt w1.heap.size (printT (t.take k)) wr ∧ Below w1.heap.size w1 wr) (fun i _ => t.length - (intOf i).toNat)
 case atStart => exact ⟨0, by omega, rfl, Lib.fresh_isBuilder _ _ w1, (Below.refl _ _).alloc (Nat.le_refl _) _⟩
 case round =>
  obtain ⟨k, hk, rfl, hg, hb⟩ := hrel
  rename World => wo
  have hzo := hb.size
  have d1 : wo.cell? ⟨w.heap.size, 0, none⟩ = some (.slice a t.length c) := (hb.cell (p := ⟨w.heap.size, 0, none⟩) z1).trans d0
  have hlenA : (printT (t.take k)).length ≤ 12180 := by
   have := aX (t.take k) fun x hx => ⟨(HOK.out x (List.mem_of_mem_take hx)).1, fun s hs => ⟨(HOK.out x (List.mem_of_mem_take hx)).2 s hs, HN.out x (List.mem_of_mem_take hx) s hs⟩⟩
   rw [List.length_take] at this
   omega
  by_cases hlt : k < t.length
  ·obtain ⟨b, off, hab, hbw, hrow⟩ : ∃ b off, a = some ⟨b, off, none⟩ ∧ b < w1.heap.size ∧ ∀ i, i < t.length → ∃ v, w1.cell? ⟨b, off + i, none⟩ = some v ∧ StepsAt w1 (t.getD i []) v := by
    obtain ⟨a', c', h1, h2⟩ := HT1.out
    cases h1
    rcases h2 with rfl | h2
    ·cases hlt
    ·exact h2
   subst hab
   obtain ⟨v, hv, hsv⟩ := hrow k hlt
   have q0 : wo.cell? ⟨b, off + k, none⟩ = some v := (hb.cell (p := ⟨b, off + k, none⟩) hbw).trans hv
   obtain ⟨l, hl⟩ : ∃ l, t.getD k [] = l := ⟨_, rfl⟩
   rw [hl] at hsv
   have hmem : l ∈ t := by rw [← hl, List.getD_eq_getElem?_getD, List.getElem?_eq_getElem hlt]; exact List.getElem_mem hlt
   have HL : Hid (l.length ≤ 16 ∧ ∀ s ∈ l, s.right = true ∧ s.n32) := Lib.hid ⟨(HOK.out l hmem).1, fun s hs => ⟨(HOK.out l hmem).2 s hs, HN.out l hmem s hs⟩⟩
   have HTK : Hid (printT (t.take (k + 1)) = printT (t.take k) ++ (wHart ++ [10]) ++ linesB l) := Lib.hid (by rw [dA t k hlt, hl]; simp [threadB, linesB])
   have hW := lC (s := wHart ++ [10]) hg (by simp [wHart]; omega) (Nat.le_of_lt (nP hg))
   have HW := Lib.hid hW
   have HB := Lib.hid hb
   obtain ⟨a2, c2, rfl, hsteps⟩ := hsv
   have HS := Lib.hid hsteps
   clear hrow hW hb hg hsteps hl hmem hv
   go_wp2_with (go_at_call 66; refine HW.out.mono ?_; rintro e w2 ⟨rfl, hg2, hb2⟩)
   have HB2 : Hid (Below w1.heap.size w1 w2) := Lib.hid (HB.out.trans hb2)
   clear hb2 HW HB
   go_loopw [25] (fun i wi => ∃ m : Nat, m ≤ l.length ∧ i = .int .i64 m ∧ BldAt w1.heap.size (printT (t.take k) ++ (wHart ++ [10]) ++ linesB (l.take m)) wi ∧ Below w1.heap.size w1 wi) (fun i _ => l.length - (intOf i).toNat)
   case atStart => exact ⟨0, by omega, rfl, by simpa [linesB] using hg2, HB2.out⟩
   case round =>
    obtain ⟨m, hm, rfl, hgm, hbm⟩ := hrel
    rename World => wi
    have hzi := hbm.size
    have hlenM : (printT (t.take k) ++ (wHart ++ [10]) ++ linesB (l.take m)).length ≤ 20000 := by
     have h1 := aI (l.take m) fun s hs => HL.out.2 s (List.mem_of_mem_take hs)
     rw [List.length_take] at h1
     have h2 := HL.out.1
     simp only [List.length_append, wHart, List.length_cons, List.length_nil]
     unfold linesB
     omega
    by_cases hlm : m < l.length
    ·obtain ⟨b2, off2, hab2, hb2w, hcell⟩ := HS.out.resolve_left (by intro h; rw [h] at hlm; cases hlm)
     subst hab2
     obtain ⟨s, hs⟩ : ∃ s, l.getD m default = s := ⟨_, rfl⟩
     have hsm : s ∈ l := by rw [← hs, List.getD_eq_getElem?_getD, List.getElem?_eq_getElem hlm]; exact List.getElem_mem hlm
     have p0 : wi.cell? ⟨b2, off2 + m * 10, none⟩ = some (.int .i64 s.kind) := (hbm.cell (p := ⟨b2, off2 + m * 10, none⟩) hb2w).trans (by have := hcell m hlm 0 (by omega); rw [hs] at this; exact this)
     have p1 : wi.cell? ⟨b2, off2 + m * 10 + 1, none⟩ = some (.int .i64 s.reg) := (hbm.cell (p := ⟨b2, off2 + m * 10 + 1, none⟩) hb2w).trans (by have := hcell m hlm 1 (by omega); rw [hs] at this; exact this)
     have p2 : wi.cell? ⟨b2, off2 + m * 10 + 2, none⟩ = some (.int .i64 s.var) := (hbm.cell (p := ⟨b2, off2 + m * 10 + 2, none⟩) hb2w).trans (by have := hcell m hlm 2 (by omega); rw [hs] at this; exact this)
     have p3 : wi.cell? ⟨b2, off2 + m * 10 + 3, none⟩ = some (.int .u32 s.num) := (hbm.cell (p := ⟨b2, off2 + m * 10 + 3, none⟩) hb2w).trans (by have := hcell m hlm 3 (by omega); rw [hs] at this; exact this)
     have p4 : wi.cell? ⟨b2, off2 + m * 10 + 4, none⟩ = some (.int .i64 s.data) := (hbm.cell (p := ⟨b2, off2 + m * 10 + 4, none⟩) hb2w).trans (by have := hcell m hlm 4 (by omega); rw [hs] at this; exact this)
     have p5 : wi.cell? ⟨b2, off2 + m * 10 + 5, none⟩ = some (.int .i64 s.byr) := (hbm.cell (p := ⟨b2, off2 + m * 10 + 5, none⟩) hb2w).trans (by have := hcell m hlm 5 (by omega); rw [hs] at this; exact this)
     have p6 : wi.cell? ⟨b2, off2 + m * 10 + 6, none⟩ = some (.bool s.aq) := (hbm.cell (p := ⟨b2, off2 + m * 10 + 6, none⟩) hb2w).trans (by have := hcell m hlm 6 (by omega); rw [hs] at this; exact this)
     have p7 : wi.cell? ⟨b2, off2 + m * 10 + 7, none⟩ = some (.bool s.rl) := (hbm.cell (p := ⟨b2, off2 + m * 10 + 7, none⟩) hb2w).trans (by have := hcell m hlm 7 (by omega); rw [hs] at this; exact this)
     have p8 : wi.cell? ⟨b2, off2 + m * 10 + 8, none⟩ = some (.int .i64 s.pred) := (hbm.cell (p := ⟨b2, off2 + m * 10 + 8, none⟩) hb2w).trans (by have := hcell m hlm 8 (by omega); rw [hs] at this; exact this)
     have p9 : wi.cell? ⟨b2, off2 + m * 10 + 9, none⟩ = some (.int .i64 s.succ) := (hbm.cell (p := ⟨b2, off2 + m * 10 + 9, none⟩) hb2w).trans (by have := hcell m hlm 9 (by omega); rw [hs] at this; exact this)
     have hb3 : Below wi.heap.size wi (wi.alloc (.cells #[.int .i64 s.kind, .int .i64 s.reg, .int .i64 s.var, .int .u32 s.num, .int .i64 s.data, .int .i64 s.byr, .bool s.aq, .bool s.rl, .int .i64 s.pred, .int .i64 s.succ] 47)) := (Below.refl _ _).alloc (Nat.le_refl _) _
     have HLC : Hid (Calls Tryz.prog 67 #[.agg #[.int .i64 s.kind, .int .i64 s.reg, .int .i64 s.var, .int .u32 s.num, .int .i64 s.data, .int .i64 s.byr, .bool s.aq, .bool s.rl, .int .i64 s.pred, .int .i64 s.succ]] (wi.alloc (.cells #[.int .i64 s.kind, .int .i64 s.reg, .int .i64 s.var, .int .u32 s.num, .int .i64 s.data, .int .i64 s.byr, .bool s.aq, .bool s.rl, .int .i64 s.pred, .int .i64 s.succ] 47)) fun e w' => e = .returned (.string ⟨(lineB s).toArray⟩) ∧ Below (wi.alloc (.cells #[.int .i64 s.kind, .int .i64 s.reg, .int .i64 s.var, .int .u32 s.num, .int .i64 s.data, .int .i64 s.byr, .bool s.aq, .bool s.rl, .int .i64 s.pred, .int .i64 s.succ] 47)).heap.size (wi.alloc (.cells #[.int .i64 s.kind, .int .i64 s.reg, .int .i64 s.var, .int .u32 s.num, .int .i64 s.data, .int .i64 s.byr, .bool s.aq, .bool s.rl, .int .i64 s.pred, .int .i64 s.succ] 47)) w') :=
      Lib.hid (line_c (HL.out.2 s hsm).1 (HL.out.2 s hsm).2 ((HP1.out.below hbm).below hb3))
     have h16 := HL.out.1
     have hll := eF (HL.out.2 s hsm).1 (HL.out.2 s hsm).2
     have HG3 : Hid (BldAt w1.heap.size (printT (t.take k) ++ (wHart ++ [10]) ++ linesB (l.take m)) (wi.alloc (.cells #[.int .i64 s.kind, .int .i64 s.reg, .int .i64 s.var, .int .u32 s.num, .int .i64 s.data, .int .i64 s.byr, .bool s.aq, .bool s.rl, .int .i64 s.pred, .int .i64 s.succ] 47))) := Lib.hid (gL hgm hb3)
     have HBM := Lib.hid hbm
     have HMT : Hid (linesB (l.take (m + 1)) = linesB (l.take m) ++ (lineB s ++ [10])) := Lib.hid (by rw [dB l m hlm, hs])
     clear hcell hs hb3 hgm hbm
     go_wp2_with (go_at_call 67; refine HLC.out.mono ?_)
     rintro e w4 ⟨rfl, hb4⟩
     have hg4 := gL HG3.out hb4
     have HW4 := Lib.hid (lC (s := lineB s ++ [10]) hg4 (by simp only [List.length_append, List.length_cons, List.length_nil] at hlenM ⊢; omega) (Nat.le_of_lt (nP hg4)))
     have HB4 : Hid (Below w1.heap.size w1 w4) := Lib.hid ((HBM.out.trans ((Below.refl _ wi).alloc hzi _)).trans (hb4.mono (by simp; omega)))
     clear hb4 hg4 HG3 HLC
     go_wp2_with (go_at_call 66; refine HW4.out.mono ?_)
     rintro e w5 ⟨rfl, hg5, hb5⟩
     clear HW4 p0 p1 p2 p3 p4 p5 p6 p7 p8 p9
     go_wp2
     go_roundw
     case rel => exact ⟨m + 1, by omega, by go_num, by rw [HMT.out, ← List.append_assoc]; exact hg5, HB4.out.trans hb5⟩
     case measure => simp [intOf]; omega
    ·have hme : m = l.length := by omega
     subst hme
     rw [List.take_length] at hgm
     go_wp2
     go_roundw
     case rel => exact ⟨k + 1, by omega, by go_num, by rw [HTK.out]; exact hgm, hbm⟩
     case measure => simp [intOf]; omega
  ·have hke : k = t.length := by omega
   subst hke
   rw [List.take_length] at hg
   have hne : printT t ≠ [] := by
    cases t with
    | nil => simp at hk1
    | cons l t => simp [printT, threadB]
   have HS := Lib.hid (Tryz.Builder_String w1.heap.size w1.heap.size (printT t) wo hg hne)
   have HB := Lib.hid hb
   clear hg hb
   go_wp2_with (go_at_call 68; refine HS.out.mono ?_)
   rintro e w2 ⟨rfl, hb2⟩
   go_wp2
   go_ret2
   exact ⟨rfl, HB1.out.trans ((HB.out.trans hb2).mono (Nat.le_of_lt z1))⟩
theorem print_p (t : Ts) (hc : checkT t = 0) (hn : n32T t) : Pure E.P 32 [testOV t] (.tu [.bs (printT t), .int .i64 0]) :=
  ⟨⟨_, Tryz.func32, by decide, rfl⟩, fun G w vs N hr hw => by
    rw [RepOL] at hr
    obtain ⟨v, us, rfl, r0, hr⟩ := hr
    rw [RepOL] at hr
    subst hr
    unfold testOV at r0
    rw [RepO] at r0
    obtain ⟨cs, rfl, r0⟩ := r0
    rw [RepOL] at r0
    obtain ⟨v, us, hcs, r1, hr⟩ := r0
    rw [RepOL] at hr
    subst hr
    rw [RepO] at r1
    have r2 := r1
    rw [Rep] at r2
    obtain ⟨a, c, rfl, _⟩ := r2
    obtain rfl : cs = #[.slice a (t.map catRowT).length c] := by rw [← Array.toArray_toList (xs := cs), hcs]
    have hP : Pow10 w := fun i hi => hw.mem _ _ _ (G.kn i hi)
    rw [List.length_map] at r1 ⊢
    refine (print_c t hc hn w a c hP (r1.mono (fun b o v h => hw.mem b o v h) _ _)).mono fun e w' ⟨h1, h2⟩ => ⟨_, G, _, Store.nil, h1, rfl, Gh.le.refl G, ?_, hw.below h2⟩
    rw [RepO]
    refine ⟨_, rfl, ?_⟩
    rw [RepOL]
    refine ⟨_, _, rfl, xB rfl, ?_⟩
    rw [RepOL]
    exact ⟨_, _, rfl, xB rfl, by rw [RepOL]⟩⟩
set_option maxHeartbeats 1000000 in
theorem printNo_p (t : Ts) (hc : ¬ checkT t = 0) : Pure E.P 32 [testOV t] (.tu [.bs [], .int .i64 (checkT t)]) := by
 have f1 : Frozen 1 := ⟨trivial⟩
 have c1 := eW t
 refine FnW.toR ?_
 refine bB (vs := [.tmp 2, .tmp 3]) Tryz.func32 (by decide) rfl Tryz.ntmps32 (Nat.le_of_ble_eq_true rfl) rfl ?_
 refine run ?_; refine aoR fun _ => ?_
 refine run ?_; refine aoR fun _ => ?_
 refine run ?_
 apply uD; exact rfl; exact .fn _ _ _; exact rfl; exact c1
 refine run ?_; refine aoR fun _ => ?_
 refine run ?_; refine cnd ?_ ?_
 refine xY (fun _ => ?_); (try omega)
 refine run ?_; refine aoR fun _ => ?_
 refine run ?_; rotate_left
 refine wY (fun _ => ?_); (try omega)
 all_goals exact tmpN2 rfl rfl rfl
end Go.Proofs.YtjogffchdejabaaGreatDoor
