/- Parts. -/
import Derived.Test.YtnkocjkkefnelaaGreatPn6
import Derived.Test.YtnkocjkkefnelaaGreatPn8
import Derived.Test.YtnkocjkkefnelaaGreatPn23
set_option linter.unusedVariables false
set_option linter.unusedSimpArgs false
set_option maxHeartbeats 4000000
set_option maxHeartbeats 4000000
set_option maxRecDepth 100000
namespace Go.Proofs.YtnkocjkkefnelaaGreat
open Go.RowKit
def evF (x : Ex) : TV := .fn 126 [] [.pt (exRow x) 0]
def bev (x : Ex) : TV := .pt [evF x] 0
def oneF (x : Ex) : TV := .fn 127 [] [bev x]
def bone (x : Ex) : TV := .pt [oneF x] 0
def bint (a : Nat) : TV := .pt [.c (.int .i64 a)] 0
structure Ex.rok (x : Ex) : Prop where
 len : x.evs.length ≤ 65536
 from_ : x.from_.length = x.evs.length
 small : ∀ i, (x.evs.getD i default).addrs.length ≤ 1152921504606846976 ∧ (x.evs.getD i default).datas.length ≤ 1152921504606846976 ∧ (x.evs.getD i default).ctrls.length ≤ 1152921504606846976
 rsv : ∀ i, (x.evs.getD i default).rsv = true → (x.evs.getD i default).kind = 1 ∨ (x.evs.getD i default).kind = 2
 sets : ∀ i, 0 ≤ (x.evs.getD i default).pred ∧ (x.evs.getD i default).pred ≤ 3 ∧ 0 ≤ (x.evs.getD i default).succ ∧ (x.evs.getD i default).succ ≤ 3
section
variable (x : Ex) (hx : x.rok)
include hx
theorem xB (n : Nat) (hn : n < x.evs.length) : Pure E.P 126 [.int .i64 n, .d (.pt (exRow x) 0)] (evOV (x.evs.getD n default)) := by
 have hl := hx.len
 refine FnW.toR ?_
 refine wQ (vs := [.cell 3 40]) Tryz.func126 (by decide) rfl Tryz.ntmps126 (Nat.le_of_ble_eq_true rfl) rfl ?_
 refine run ?_; refine aoR fun _ => ?_
 refine run ?_; refine aoR fun _ => ?_
 refine run ?_; rotate_left
 exact qZ rfl rfl rfl rfl rfl rfl
theorem sG (a b : Nat) (ha : a < x.evs.length) (hb : b < x.evs.length) : Pure E.P 127 [.int .i64 a, .int .i64 b, .d (bev x)] (.bool (oneB (x.evs.getD a default) (x.evs.getD b default))) := by
 refine fnA Tryz.func127 Tryz.ntmps127 ?_
 refine run ?_; refine aoR fun _ => ?_
 refine run ?_
 refine vF (E := E) ?_ (fun _ => ?_); exact rfl
 refine run ?_
 apply yD; exact rfl; exact .d _ _ _; exact rfl; exact xB x hx _ (by omega)
 refine run ?_
 apply yD; exact rfl; exact .d _ _ _; exact rfl; exact xB x hx _ (by omega)
 refine run ?_; rotate_left
 exact vI rfl rfl
theorem ru3_p (a b : Nat) (ha : a < x.evs.length) (hb : b < x.evs.length) : Pure E.P 128 [.int .i64 a, .int .i64 b, .d (bev x), .d (bone x)] (.bool ((x.evs.getD b default).stB && oneB (x.evs.getD a default) (x.evs.getD b default))) := by
 refine fnA Tryz.func128 Tryz.ntmps128 ?_
 refine run ?_; refine aoR fun _ => ?_
 refine run ?_; refine aoR fun _ => ?_
 refine run ?_
 apply uO; exact rfl; (exact .d _ _ _); exact rfl; (exact xB x hx _ (by omega))
 apply uO; exact rfl; (exact .fn _ _ _); exact rfl; (exact kJ _)
 refine run ?_
 apply spT; exact rfl
 intro hc_
 have hp_ := hc_; try simp only [nrm] at hp_
 apply wA; ((refine EvM.mb _ rfl ?_; assumption)); (exact .d _ _ _); exact xJ; (exact sG x hx _ _ (by omega) (by omega))
 refine run ?_; rotate_left
 exact vI rfl rfl
theorem ru41_p (a : Nat) (n : Int) (e : Ev) (ha : a < x.evs.length) : Pure E.P 131 ([.int .i64 n, evOV e] ++ [bev x, bint a].map .d) (.bool (e.stB && decide (e.addr = (x.evs.getD a default).addr))) := by
 refine fnA Tryz.func131 Tryz.ntmps131 ?_
 refine run ?_; refine aoR fun _ => ?_
 refine run ?_
 refine vF (E := E) ?_ (fun _ => ?_); exact rfl
 refine run ?_
 apply yD; exact rfl; (exact .fn _ _ _); exact rfl; (exact kJ _)
 refine run ?_
 apply dpT; exact rfl
 intro hc_
 have hp_ := hc_; try simp only [nrm] at hp_
 apply wA; ((refine EvM.mb _ rfl ?_; assumption)); (exact .d _ _ _); exact xJ; (exact xB x hx _ (by omega))
 refine run ?_; rotate_left
 exact vI rfl rfl
theorem ru4_p (a b : Nat) (ha : a < x.evs.length) (hb : b < x.evs.length) : Pure E.P 129 [.int .i64 a, .int .i64 b, .d (bev x), .d (bone x), .d (.pt (exRow x) 0)] (.bool (rule2 x a b)) := by
 have hl := hx.len
 have hfl := hx.from_
 have f5 : Frozen 5 := ⟨trivial⟩
 have hs := lF x a b _ _ _ hl hb (by omega) fun n _ _ => ru41_p x hx a n (x.evs.getD n default) ha
 refine fnA Tryz.func129 Tryz.ntmps129 ?_
 refine run ?_; refine aoR fun _ => ?_
 refine run ?_
 refine vF (E := E) ?_ (fun _ => ?_); exact rfl
 refine run ?_
 apply yD; exact rfl; (exact .d _ _ _); exact rfl; (exact xB x hx _ (by omega))
 apply yD; exact rfl; (exact .fn _ _ _); exact rfl; (exact nN _)
 refine run ?_
 apply dpT; exact rfl
 intro hc_
 have hp_ := hc_; try simp only [nrm] at hp_
 apply wA; ((refine EvM.mb _ rfl ?_; assumption)); (exact .d _ _ _); exact xJ; (exact xB x hx _ (by omega))
 apply dpT; exact rfl
 intro hc_
 have hp_ := hc_; try simp only [nrm] at hp_
 apply wA; (exact EvM.plain rfl rfl); (exact .fn _ _ _); exact xJ; (exact nN _)
 refine run ?_
 apply dpT; exact rfl
 intro hc_
 have hp_ := hc_; try simp only [nrm] at hp_
 apply wA; ((refine EvM.mb _ rfl ?_; assumption)); (exact .d _ _ _); exact xJ; (exact sG x hx _ _ (by omega) (by omega))
 refine run ?_
 apply dpT; exact rfl
 intro hc_
 have hp_ := hc_; try simp only [nrm] at hp_
 apply dI; exact xJ; exact xJ
 apply dpT; exact rfl
 intro hc_
 have hp_ := hc_; try simp only [nrm] at hp_
 apply wA; (exact EvM.plain rfl rfl); (exact .fn _ _ _); exact xJ; (exact hs)
 refine run ?_; rotate_left
 exact vI rfl rfl
theorem ru5_p (a b : Nat) (ha : a < x.evs.length) (hb : b < x.evs.length) : Pure E.P 132 [.int .i64 a, .int .i64 b, .d (bev x), .d (.pt (exRow x) 0)] (.bool (rule3 x a b)) := by
 have hl := hx.len
 have hfl := hx.from_
 refine fnA Tryz.func132 Tryz.ntmps132 ?_
 refine run ?_; refine aoR fun _ => ?_
 refine run ?_; refine aoR fun _ => ?_
 refine run ?_
 apply uO; exact rfl; (exact .d _ _ _); exact rfl; (exact xB x hx _ (by omega))
 refine run ?_
 apply spF; exact rfl
 intro hc_
 have hp_ := hc_; try simp only [nrm] at hp_
 apply wA; ((refine EvM.mb _ rfl ?_; assumption)); (exact .d _ _ _); exact xJ; (exact xB x hx _ (by omega))
 refine run ?_
 apply pK; exact rfl; exact rfl
 intro hc_
 have hp_ := hc_; try simp only [nrm] at hp_
 apply wA; ((refine EvM.mb _ rfl ?_; assumption)); (exact .d _ _ _); exact xJ; (exact xB x hx _ (by omega))
 refine run ?_; rotate_left
 exact vI rfl rfl
theorem ru61_p (a b : Nat) (n : Int) (e : Ev) (ha : a < x.evs.length) (hb : b < x.evs.length) (he : 0 ≤ e.pred ∧ e.pred ≤ 3 ∧ 0 ≤ e.succ ∧ e.succ ≤ 3) : Pure E.P 134 ([.int .i64 n, evOV e] ++ [bev x, bint a, bint b].map .d) (.bool (decide (e.kind = 4) && inB e.pred (x.evs.getD a default) && inB e.succ (x.evs.getD b default))) := by
 refine fnA Tryz.func134 Tryz.ntmps134 ?_
 refine run ?_; refine aoR fun _ => ?_
 refine run ?_
 refine vF (E := E) ?_ (fun _ => ?_); exact rfl
 refine run ?_
 apply dpT; exact rfl
 intro hc_
 have hp_ := hc_; try simp only [nrm] at hp_
 apply wA; ((refine EvM.mb _ rfl ?_; assumption)); (exact .d _ _ _); exact xJ; (exact xB x hx _ (by omega))
 apply dpT; exact rfl
 intro hc_
 have hp_ := hc_; try simp only [nrm] at hp_
 apply wA; (exact EvM.plain rfl rfl); (exact .fn _ _ _); exact xJ; ((exact in_p _ _ he.1 he.2.1))
 refine run ?_
 apply dpT; exact rfl
 intro hc_
 have hp_ := hc_; try simp only [nrm] at hp_
 apply wA; ((refine EvM.mb _ rfl ?_; assumption)); (exact .d _ _ _); exact xJ; (exact xB x hx _ (by omega))
 apply dpT; exact rfl
 intro hc_
 have hp_ := hc_; try simp only [nrm] at hp_
 apply wA; (exact EvM.plain rfl rfl); (exact .fn _ _ _); exact xJ; ((exact in_p _ _ he.2.2.1 he.2.2.2))
 refine run ?_; rotate_left
 exact vI rfl rfl
theorem ru6_p (a b : Nat) (ha : a < x.evs.length) (hb : b < x.evs.length) : Pure E.P 133 [.int .i64 a, .int .i64 b, .d (.pt (exRow x) 0), .d (bev x)] (.bool (someB a b (hit4 x a b))) := by
 have hl := hx.len
 have hfl := hx.from_
 have f4 : Frozen 4 := ⟨trivial⟩
 have f5 : Frozen 5 := ⟨trivial⟩
 have hs := lF x a b _ _ _ hl hb (by omega) fun n _ _ => ru61_p x hx a b n (x.evs.getD n default) ha hb (hx.sets n)
 refine fnA Tryz.func133 Tryz.ntmps133 ?_
 refine run ?_; refine aoR fun _ => ?_
 refine run ?_; refine aoR fun _ => ?_
 refine run ?_
 apply uO; exact rfl; (exact .fn _ _ _); exact rfl; (exact hs)
 refine run ?_; rotate_left
 exact vI rfl rfl
theorem ru7_p (a b : Nat) (ha : a < x.evs.length)  : Pure E.P 136 [.int .i64 a, .int .i64 b, .d (bev x)] (.bool ((x.evs.getD a default).aq)) := by
 refine fnA Tryz.func136 Tryz.ntmps136 ?_
 refine run ?_; refine aoR fun _ => ?_
 refine run ?_; refine aoR fun _ => ?_
 refine run ?_
 apply uO; exact rfl; (exact .d _ _ _); exact rfl; (exact xB x hx _ (by omega))
 refine run ?_; rotate_left
 exact vI rfl rfl
theorem ru8_p (a b : Nat)  (hb : b < x.evs.length) : Pure E.P 137 [.int .i64 a, .int .i64 b, .d (bev x)] (.bool ((x.evs.getD b default).rl)) := by
 refine fnA Tryz.func137 Tryz.ntmps137 ?_
 refine run ?_; refine aoR fun _ => ?_
 refine run ?_; refine aoR fun _ => ?_
 refine run ?_
 apply uO; exact rfl; (exact .d _ _ _); exact rfl; (exact xB x hx _ (by omega))
 refine run ?_; rotate_left
 exact vI rfl rfl
theorem ru9_p (a b : Nat) (ha : a < x.evs.length) (hb : b < x.evs.length) : Pure E.P 138 [.int .i64 a, .int .i64 b, .d (bev x)] (.bool (strongB (x.evs.getD a default) && strongB (x.evs.getD b default))) := by
 refine fnA Tryz.func138 Tryz.ntmps138 ?_
 refine run ?_; refine aoR fun _ => ?_
 refine run ?_; refine aoR fun _ => ?_
 refine run ?_
 apply uO; exact rfl; (exact .d _ _ _); exact rfl; (exact xB x hx _ (by omega))
 apply uO; exact rfl; (exact .fn _ _ _); exact rfl; (exact mJ _)
 refine run ?_
 apply spT; exact rfl
 intro hc_
 have hp_ := hc_; try simp only [nrm] at hp_
 apply wA; ((refine EvM.mb _ rfl ?_; assumption)); (exact .d _ _ _); exact xJ; (exact xB x hx _ (by omega))
 apply spT; exact rfl
 intro hc_
 have hp_ := hc_; try simp only [nrm] at hp_
 apply wA; (exact EvM.plain rfl rfl); (exact .fn _ _ _); exact xJ; (exact mJ _)
 refine run ?_; rotate_left
 exact vI rfl rfl
theorem mW (b : Nat) (hb : b < x.evs.length) : Pure E.P 108 [exOV x, .int .i64 b] (.tu [.int .i64 (pairedZ x b).1, .bool (pairedZ x b).2]) := by
 have hl := hx.len
 have f2 : Frozen 2 := ⟨trivial⟩
 have f6 : Frozen 6 := ⟨trivial⟩
 refine FnW.toR ?_
 refine wQ (vs := [.tmp 4, .tmp 5]) Tryz.func108 (by decide) rfl Tryz.ntmps108 (Nat.le_of_ble_eq_true rfl) rfl ?_
 refine run ?_; refine aoR fun _ => ?_
 refine run ?_; refine aoR fun _ => ?_
 refine run ?_; refine aoR fun _ => ?_
 refine run ?_; refine cnd ?_ ?_
 refine yS (fun hc_ => ?_); (try simp only [nrm] at hc_)
 refine run ?_; refine aoR fun _ => ?_
 refine run ?_; rotate_left
 refine yT ?_
 refine xA (fun _ => ?_); (try omega)
 refine cO ?_
 refine iM (fun _ => ?_)
 refine run ?_; refine aoR fun _ => ?_
 refine run ?_; rotate_left
 ·refine aK rfl rfl ?_
  have h9 := hc_
  simp only [Int.toNat_natCast] at h9
  unfold pairedZ
  rw [if_neg (by rintro ⟨e1, e2⟩; rcases h9 with h9 | h9; exact h9 e1; rw [e2] at h9; cases h9)]
 rename_i g1 g2 _
 simp only [Int.toNat_natCast] at g1 g2
 refine vJ (X := Nat) (fun k => tmL [(2, .d (.pt (exRow x) 0)), (6, .d (.pt (evTV (x.evs.getD b default)) 0)), (7, .int .i64 ((k : Int) - 1))]) (fun _ => stL []) (fun k => k ≤ b ∧ pairedZ x b = pairTP x.evs (x.evs.getD b default) k) (fun k => k) b ⟨Nat.le_refl _, by unfold pairedZ; rw [if_pos ⟨g1, g2⟩]⟩ leP leP ?_
 rintro k ⟨hk, ht⟩
 cases k with
 | zero =>
  refine run ?_
  refine vF (E := E) ?_ (fun _ => ?_); exact rfl
  refine run ?_; refine cnd ?_ ?_; refine yU ?_
  refine uN fun _ => ?_; try omega
  refine xZ (fun hc_ => ?_); (try simp only [nrm] at hc_)
  refine run ?_; refine aoR fun _ => ?_
  refine run ?_; rotate_left
  refine aK rfl rfl ?_
  rw [ht]; rfl
 | succ k =>
  rw [show ((k + 1 : Nat) : Int) - 1 = (k : Int) by omega]
  refine run ?_
  refine vF (E := E) ?_ (fun _ => ?_); exact rfl
  refine run ?_; refine cnd ?_ ?_; refine yU ?_
  iterate 2 refine uN fun _ => ?_; try omega
  refine run ?_; refine aoR fun _ => ?_
  refine run ?_; refine aoR fun _ => ?_
  refine run ?_; refine cnd ?_ ?_
  refine iM (fun _ => ?_)
  refine run ?_
  refine vF (E := E) ?_ (fun _ => ?_); exact rfl
  refine run ?_; rotate_left
  refine qT (fun _ => ?_)
  refine run ?_; refine aoR fun _ => ?_
  refine run ?_; rotate_left
  refine xZ (fun hc_ => ?_); (try simp only [nrm] at hc_)
  refine run ?_; refine aoR fun _ => ?_
  refine run ?_; rotate_left
  ·rename_i h1 _ _ h2 _
   simp only [Int.toNat_natCast] at h1 h2
   refine aK rfl rfl ?_
   rw [ht, pairTP, if_pos h1, if_pos h2]; rfl
  ·rename_i h1 _ _ h2 _
   simp only [Int.toNat_natCast] at h1 h2
   exact vQ k ⟨by omega, by rw [ht, pairTP, if_pos h1, if_neg (by rw [h2]; decide)]⟩ (by omega) leP leP
  ·have h1 := hc_
   simp only [Int.toNat_natCast] at h1
   refine aK rfl rfl ?_
   rw [ht, pairTP, if_neg (h1.resolve_left (by omega))]
theorem ru10_p (a b : Nat) (ha : a < x.evs.length) (hb : b < x.evs.length) : Pure E.P 140 [.int .i64 a, .int .i64 b, .d (.pt (exRow x) 0)] (.bool (decide (pairedI x b = (a : Int)))) := by
 have hp := mW x hx b hb
 rw [← pairedZ_rule hx.rsv]
 refine fnA Tryz.func140 Tryz.ntmps140 ?_
 refine run ?_; refine aoR fun _ => ?_
 refine run ?_; refine aoR fun _ => ?_
 refine run ?_
 apply uO; exact rfl; (exact .fn _ _ _); exact rfl; (exact hp)
 refine run ?_; refine aoR fun _ => ?_
 refine run ?_; rotate_left
 exact vI rfl rfl
theorem ru11_p (a b : Nat) (ha : a < x.evs.length) (hb : b < x.evs.length) : Pure E.P 141 [.int .i64 a, .int .i64 b, .d (bev x)] (.bool (hasB (x.evs.getD b default).addrs a)) := by
 refine fnA Tryz.func141 Tryz.ntmps141 ?_
 refine run ?_; refine aoR fun _ => ?_
 refine run ?_; refine aoR fun _ => ?_
 refine run ?_
 apply uO; exact rfl; (exact .d _ _ _); exact rfl; (exact xB x hx _ (by omega))
 refine run ?_
 apply uO; exact rfl; (exact .fn _ _ _); exact rfl; (exact xU _ _ (by first | exact (hx.small b).1 | exact (hx.small b).2.1))
 refine run ?_; rotate_left
 exact vI rfl rfl
theorem ru12_p (a b : Nat) (ha : a < x.evs.length) (hb : b < x.evs.length) : Pure E.P 143 [.int .i64 a, .int .i64 b, .d (bev x)] (.bool (hasB (x.evs.getD b default).datas a)) := by
 refine fnA Tryz.func143 Tryz.ntmps143 ?_
 refine run ?_; refine aoR fun _ => ?_
 refine run ?_; refine aoR fun _ => ?_
 refine run ?_
 apply uO; exact rfl; (exact .d _ _ _); exact rfl; (exact xB x hx _ (by omega))
 refine run ?_
 apply uO; exact rfl; (exact .fn _ _ _); exact rfl; (exact xU _ _ (by first | exact (hx.small b).1 | exact (hx.small b).2.1))
 refine run ?_; rotate_left
 exact vI rfl rfl
theorem ru13_p (a b : Nat) (ha : a < x.evs.length) (hb : b < x.evs.length) : Pure E.P 144 [.int .i64 a, .int .i64 b, .d (bev x)] (.bool ((x.evs.getD b default).stB && hasB (x.evs.getD b default).ctrls a)) := by
 refine fnA Tryz.func144 Tryz.ntmps144 ?_
 refine run ?_; refine aoR fun _ => ?_
 refine run ?_; refine aoR fun _ => ?_
 refine run ?_
 apply uO; exact rfl; (exact .d _ _ _); exact rfl; (exact xB x hx _ (by omega))
 apply uO; exact rfl; (exact .fn _ _ _); exact rfl; (exact kJ _)
 refine run ?_
 apply spT; exact rfl
 intro hc_
 have hp_ := hc_; try simp only [nrm] at hp_
 apply wA; ((refine EvM.mb _ rfl ?_; assumption)); (exact .d _ _ _); exact xJ; (exact xB x hx _ (by omega))
 refine run ?_
 apply spT; exact rfl
 intro hc_
 have hp_ := hc_; try simp only [nrm] at hp_
 apply wA; (exact EvM.plain rfl rfl); (exact .fn _ _ _); exact xJ; (exact xU _ _ (hx.small b).2.2)
 refine run ?_; rotate_left
 exact vI rfl rfl
theorem ru141_p (a b n : Nat) (e : Ev) (ha : a < x.evs.length) (hb : b < x.evs.length) (he : e.addrs.length ≤ 1152921504606846976 ∧ e.datas.length ≤ 1152921504606846976) : Pure E.P 146 ([.int .i64 n, evOV e] ++ [.pt (exRow x) 0, bint b, bint a].map .d) (.bool (e.stB && decide (x.from_.getD b 0 = (n : Int)) && (hasB e.addrs a || hasB e.datas a))) := by
 have hl := hx.len
 have hfl := hx.from_
 refine fnA Tryz.func146 Tryz.ntmps146 ?_
 refine run ?_; refine aoR fun _ => ?_
 refine run ?_; refine aoR fun _ => ?_
 refine run ?_
 apply uO; exact rfl; (exact .fn _ _ _); exact rfl; (exact kJ _)
 refine run ?_
 apply spT; exact rfl
 intro hc_
 have hp_ := hc_; try simp only [nrm] at hp_
 apply wA; (exact EvM.plain rfl rfl); (exact .fn _ _ _); exact xJ; ((exact xU _ _ he.1))
 refine run ?_
 apply pM; exact rfl; exact rfl
 intro hc_
 have hp_ := hc_; try simp only [nrm] at hp_
 apply wA; (exact EvM.plain rfl rfl); (exact .fn _ _ _); exact xJ; ((exact xU _ _ he.2))
 refine run ?_; rotate_left
 exact vI rfl rfl
theorem ru14_p (a b : Nat) (ha : a < x.evs.length) (hb : b < x.evs.length) : Pure E.P 145 [.int .i64 a, .int .i64 b, .d (bev x), .d (.pt (exRow x) 0)] (.bool ((x.evs.getD b default).ldB && someB a b (hit12 x a b))) := by
 have hl := hx.len
 have hfl := hx.from_
 have f4 : Frozen 4 := ⟨trivial⟩
 have f5 : Frozen 5 := ⟨trivial⟩
 have hs := lF x a b _ _ _ hl hb (by omega) fun n _ _ => ru141_p x hx a b n (x.evs.getD n default) ha hb ⟨(hx.small n).1, (hx.small n).2.1⟩
 refine fnA Tryz.func145 Tryz.ntmps145 ?_
 refine run ?_; refine aoR fun _ => ?_
 refine run ?_; refine aoR fun _ => ?_
 refine run ?_
 apply uO; exact rfl; (exact .d _ _ _); exact rfl; (exact xB x hx _ (by omega))
 apply uO; exact rfl; (exact .fn _ _ _); exact rfl; (exact nN _)
 refine run ?_
 apply spT; exact rfl
 intro hc_
 have hp_ := hc_; try simp only [nrm] at hp_
 apply dI; exact xJ; exact xJ
 apply spT; exact rfl
 intro hc_
 have hp_ := hc_; try simp only [nrm] at hp_
 apply wA; (exact EvM.plain rfl rfl); (exact .fn _ _ _); exact xJ; (exact hs)
 refine run ?_; rotate_left
 exact vI rfl rfl
omit hx in
theorem ru151_p (a : Nat) (n : Int) (e : Ev) (he : e.addrs.length ≤ 1152921504606846976) : Pure E.P 148 ([.int .i64 n, evOV e] ++ [bint a].map .d) (.bool (hasB e.addrs a)) := by
 refine fnA Tryz.func148 Tryz.ntmps148 ?_
 refine run ?_; refine aoR fun _ => ?_
 refine run ?_; refine aoR fun _ => ?_
 refine run ?_
 apply uO; exact rfl; (exact .fn _ _ _); exact rfl; (exact xU _ _ he)
 refine run ?_; rotate_left
 exact vI rfl rfl
theorem ru15_p (a b : Nat) (ha : a < x.evs.length) (hb : b < x.evs.length) : Pure E.P 147 [.int .i64 a, .int .i64 b, .d (bev x), .d (.pt (exRow x) 0)] (.bool ((x.evs.getD b default).stB && someB a b (hit13 x a))) := by
 have hl := hx.len
 have hfl := hx.from_
 have f4 : Frozen 4 := ⟨trivial⟩
 have f5 : Frozen 5 := ⟨trivial⟩
 have hs := lF x a b _ _ _ hl hb (by omega) fun n _ _ => ru151_p a n (x.evs.getD n default) (hx.small n).1
 refine fnA Tryz.func147 Tryz.ntmps147 ?_
 refine run ?_; refine aoR fun _ => ?_
 refine run ?_; refine aoR fun _ => ?_
 refine run ?_
 apply uO; exact rfl; (exact .d _ _ _); exact rfl; (exact xB x hx _ (by omega))
 apply uO; exact rfl; (exact .fn _ _ _); exact rfl; (exact kJ _)
 refine run ?_
 apply spT; exact rfl
 intro hc_
 have hp_ := hc_; try simp only [nrm] at hp_
 apply dI; exact xJ; exact xJ
 apply spT; exact rfl
 intro hc_
 have hp_ := hc_; try simp only [nrm] at hp_
 apply wA; (exact EvM.plain rfl rfl); (exact .fn _ _ _); exact xJ; (exact hs)
 refine run ?_; rotate_left
 exact vI rfl rfl
end
end Go.Proofs.YtnkocjkkefnelaaGreat
