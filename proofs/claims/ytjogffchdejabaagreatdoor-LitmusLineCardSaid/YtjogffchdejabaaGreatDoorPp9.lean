/- Parts. -/
import Derived.Maps.OwnSet
import Derived.Maps.OwnOps
import Derived.WideKeyEntry
import Derived.Test.YtjogffchdejabaaGreatDoorRows
import Derived.WalkKit
import Derived.WalkSpells
import Derived.WalkLawsBesides
import Derived.Deep.QuietTactic
import Derived.BigQuiet
import Derived.ProofKit
import Derived.Lib.Hide
import Derived.Deep.DeepCutAuto
import Derived.Lib.SmallJoins
import Derived.WideKeyArgs
import Derived.Deep.SlicePairs
import Derived.SizedLaws
import Derived.OpenShut
import Derived.OwnWalk
import Derived.Lib.AppendZerosOnto
import Derived.Lib.SliceRun
import Derived.Test.YtjogffchdejabaaGreatDoorPp3
import Derived.Test.YtjogffchdejabaaGreatDoorPp4
import Derived.Test.YtjogffchdejabaaGreatDoorPp7
import Derived.Test.YtjogffchdejabaaGreatDoorPp8
set_option linter.unusedVariables false
set_option linter.unusedSimpArgs false
set_option maxHeartbeats 4000000
namespace Go.Proofs.YtjogffchdejabaaGreatDoor
open Go.RowKit
section
open Go.Lib
def Stp.n32 (s : Stp) : Prop := 0 ≤ s.num ∧ s.num ≤ 4294967295
theorem oU : (0 : Int) ≤ 0 ∧ (0 : Int) ≤ 4294967295 := by decide
theorem aZ (n : Int) : valW 0 n = decDigits n.toNat := rfl
theorem aY {d : Int} (n : Int) (h : 0 < d) : valW d n = regW d := if_pos h
theorem hU {w : Bt} {o : Int × Int} (h : operOf w = some o) : w = valW o.1 o.2 ∧ (0 ≤ o.1 ∧ o.1 ≤ 4) ∧ (o.1 = 0 ∨ o.2 = 0) ∧ 0 ≤ o.2 ∧ o.2 ≤ 4294967295 := by
 unfold operOf at h
 split at h
 ·obtain ⟨n, hn, rfl⟩ := Option.map_eq_some_iff.1 h
  have hr := yC hn
  refine ⟨?_, ⟨?_, ?_⟩, Or.inr rfl, Int.le_refl 0, (by decide : (0 : Int) ≤ 4294967295)⟩
  ·rw [aY _ (by have := hr.1.1; show 0 < n; omega)]; exact hr.2
  ·have := hr.1.1; show 0 ≤ n; omega
  ·exact hr.1.2
 ·obtain ⟨n, hn, rfl⟩ := Option.map_eq_some_iff.1 h
  have hr := jT hn
  refine ⟨?_, ⟨Int.le_refl 0, (by decide : (0 : Int) ≤ 4)⟩, Or.inl rfl, ?_, ?_⟩
  ·rw [aZ]; simpa using hr.2
  ·show 0 ≤ (n : Int); omega
  ·show (n : Int) ≤ 4294967295; have := hr.1; omega
theorem pQ (n : Nat) : (decDigits n).head? ≠ some 114 := by
 intro h
 cases e : decDigits n with
 | nil => rw [e] at h; cases h
 | cons c r =>
  rw [e] at h
  simp only [List.head?_cons, Option.some.injEq] at h
  have := dL (u := n) c (by rw [e]; simp)
  subst h
  revert this; decide
theorem eD {d n : Int} (hd : 0 ≤ d ∧ d ≤ 4) (h0 : d = 0 ∨ n = 0) (hn : 0 ≤ n ∧ n ≤ 4294967295) : operOf (valW d n) = some (d, n) := by
 by_cases h : 0 < d
 ·have : n = 0 := by omega
  subst this
  rw [aY _ h]
  unfold operOf
  rw [if_pos (by rfl), zA ⟨by omega, hd.2⟩]; rfl
 ·have : d = 0 := by omega
  subst this
  rw [aZ]
  unfold operOf
  rw [if_neg (pQ _), numOf_dec (by omega)]
  simp only [Option.map_some, Option.some.injEq, Prod.mk.injEq, true_and]
  omega
theorem oE (w : Bt) (ws : List Bt) : ws = (if (sufAq w ws).1 then [w] else []) ++ (sufAq w ws).2 := by
 unfold sufAq
 split
 ·split
  ·rename_i h; rw [h]; rfl
  ·rfl
 ·rfl
theorem sufBy_some {ws : List Bt} {p : Int × List Bt} (h : sufBy ws = some p) : ws = (if 0 < p.1 then [wBy, regW p.1] else []) ++ p.2 ∧ 0 ≤ p.1 ∧ p.1 ≤ 4 := by
 unfold sufBy at h
 split at h
 ·split at h
  ·rename_i e
   obtain ⟨n, hn, rfl⟩ := Option.map_eq_some_iff.1 h
   have hr := yC hn
   refine ⟨?_, ?_, hr.1.2⟩
   ·rw [if_pos (by have := hr.1.1; show 0 < n; omega), e, hr.2]; rfl
   ·have := hr.1.1; show 0 ≤ n; omega
  ·cases h; exact ⟨rfl, Int.le_refl 0, (by decide : (0 : Int) ≤ 4)⟩
 ·cases h; exact ⟨rfl, Int.le_refl 0, (by decide : (0 : Int) ≤ 4)⟩
theorem bZ {ws : List Bt} {x : Int × Bool × Bool} (h : suffOf ws = some x) : ws = tailW x.1 x.2.1 x.2.2 ∧ 0 ≤ x.1 ∧ x.1 ≤ 4 := by
 unfold suffOf at h
 obtain ⟨p, hp, h⟩ := Option.bind_eq_some_iff.1 h
 split at h
 ·rename_i e
  cases h
  have h1 := sufBy_some hp
  refine ⟨?_, h1.2⟩
  have h2 := oE wAq p.2
  have h3 := oE wRl (sufAq wAq p.2).2
  rw [e, List.append_nil] at h3
  unfold tailW
  rw [← h3, ← h2]
  exact h1.1
 ·cases h
theorem aJ {b : Int} (hb : 0 ≤ b ∧ b ≤ 4) (a r : Bool) : suffOf (tailW b a r) = some (b, a, r) := by
 rcases (by omega : b = 0 ∨ b = 1 ∨ b = 2 ∨ b = 3 ∨ b = 4) with rfl | rfl | rfl | rfl | rfl <;> cases a <;> cases r <;> decide
theorem gY {p q : Int} (hp : 1 ≤ p ∧ p ≤ 3) (hq : 1 ≤ q ∧ q ≤ 3) : (⟨5, 0, 0, 0, 0, 0, false, false, p, q⟩ : Stp).right = true := by
 simp [Stp.right, Stp.bare, Stp.lds, Stp.sts, Stp.acc, inR]; omega
theorem oM {n : Int} (h : 1 ≤ n ∧ n ≤ 4) : (⟨6, n, 0, 0, 0, 0, false, false, 0, 0⟩ : Stp).right = true := by
 simp [Stp.right, Stp.bare, Stp.lds, Stp.sts, Stp.acc, inR]; omega
theorem jH {r v b : Int} {a l : Bool} (hr : 1 ≤ r ∧ r ≤ 4) (hv : 0 ≤ v ∧ v ≤ 3) (hb : 0 ≤ b ∧ b ≤ 4) : (⟨1, r, v, 0, 0, b, a, l, 0, 0⟩ : Stp).right = true := by
 simp [Stp.right, Stp.bare, Stp.lds, Stp.sts, Stp.acc, inR]; omega
theorem gX {v n d b : Int} {a l : Bool} (hv : 0 ≤ v ∧ v ≤ 3) (hb : 0 ≤ b ∧ b ≤ 4) (hd : 0 ≤ d ∧ d ≤ 4) (h0 : d = 0 ∨ n = 0) : (⟨2, 0, v, n, d, b, a, l, 0, 0⟩ : Stp).right = true := by
 simp [Stp.right, Stp.bare, Stp.lds, Stp.sts, Stp.acc, inR]; omega
theorem jI {k r v n d b : Int} {a l : Bool} (hk : k = 3 ∨ k = 4) (hr : 1 ≤ r ∧ r ≤ 4) (hv : 0 ≤ v ∧ v ≤ 3) (hb : 0 ≤ b ∧ b ≤ 4) (hd : 0 ≤ d ∧ d ≤ 4) (h0 : d = 0 ∨ n = 0) : (⟨k, r, v, n, d, b, a, l, 0, 0⟩ : Stp).right = true := by
 rcases hk with rfl | rfl <;> (simp [Stp.right, Stp.bare, Stp.lds, Stp.sts, Stp.acc, inR]; omega)
inductive Shape : Stp → Prop where
 | fence (p q : Int) (hp : 1 ≤ p ∧ p ≤ 3) (hq : 1 ≤ q ∧ q ≤ 3) : Shape ⟨5, 0, 0, 0, 0, 0, false, false, p, q⟩
 | cond (n : Int) (h : 1 ≤ n ∧ n ≤ 4) : Shape ⟨6, n, 0, 0, 0, 0, false, false, 0, 0⟩
 | load (r v b : Int) (a l : Bool) (hr : 1 ≤ r ∧ r ≤ 4) (hv : 0 ≤ v ∧ v ≤ 3) (hb : 0 ≤ b ∧ b ≤ 4) : Shape ⟨1, r, v, 0, 0, b, a, l, 0, 0⟩
 | store (v n d b : Int) (a l : Bool) (hv : 0 ≤ v ∧ v ≤ 3) (hb : 0 ≤ b ∧ b ≤ 4) (hd : 0 ≤ d ∧ d ≤ 4) (h0 : d = 0 ∨ n = 0) : Shape ⟨2, 0, v, n, d, b, a, l, 0, 0⟩
 | both (k r v n d b : Int) (a l : Bool) (hk : k = 3 ∨ k = 4) (hr : 1 ≤ r ∧ r ≤ 4) (hv : 0 ≤ v ∧ v ≤ 3) (hb : 0 ≤ b ∧ b ≤ 4) (hd : 0 ≤ d ∧ d ≤ 4) (h0 : d = 0 ∨ n = 0) : Shape ⟨k, r, v, n, d, b, a, l, 0, 0⟩
theorem Shape.right {s : Stp} (h : Shape s) : s.right = true := by
 cases h with
 | fence p q hp hq => exact gY hp hq
 | cond n h => exact oM h
 | load r v b a l hr hv hb => exact jH hr hv hb
 | store v n d b a l hv hb hd h0 => exact gX hv hb hd h0
 | both k r v n d b a l hk hr hv hb hd h0 => exact jI hk hr hv hb hd h0
theorem aB {s : Stp} (h : s.right = true) : Shape s := by
 obtain ⟨k, r, v, n, d, b, a, l, p, q⟩ := s
 unfold Stp.right at h
 split at h
 ·cases h
 ·rename_i hc
  simp only [Bool.or_eq_true, Bool.not_eq_true', decide_eq_false_iff_not, not_or, Classical.not_not] at hc
  obtain ⟨hb, hk⟩ := hc
  have hk' : 1 ≤ k ∧ k ≤ 6 := by simpa [inR] using hk
  rcases (by omega : k = 1 ∨ k = 2 ∨ k = 3 ∨ k = 4 ∨ k = 5 ∨ k = 6) with rfl | rfl | rfl | rfl | rfl | rfl <;>
   simp [Stp.bare, Stp.lds, Stp.sts, Stp.acc, inR] at hb h
  ·obtain ⟨rfl, rfl, rfl, rfl⟩ := hb
   exact .load _ _ _ _ _ (by omega) (by omega) (by omega)
  ·obtain ⟨rfl, rfl, rfl⟩ := hb
   exact .store _ _ _ _ _ _ (by omega) (by omega) (by omega) (by omega)
  ·obtain ⟨rfl, rfl⟩ := hb
   exact .both _ _ _ _ _ _ _ _ (Or.inl rfl) (by omega) (by omega) (by omega) (by omega) (by omega)
  ·obtain ⟨rfl, rfl⟩ := hb
   exact .both _ _ _ _ _ _ _ _ (Or.inr rfl) (by omega) (by omega) (by omega) (by omega) (by omega)
  ·obtain ⟨rfl, rfl, rfl, rfl, rfl, rfl, rfl⟩ := hb
   exact .fence _ _ (by omega) (by omega)
  ·obtain ⟨rfl, rfl, rfl, rfl, rfl, rfl, rfl, rfl⟩ := hb
   exact .cond _ (by omega)
theorem zK {n : Int} (h : 1 ≤ n ∧ n ≤ 4) : regW n ≠ wFence ∧ regW n ≠ wIf := by
 rcases sQ h with rfl | rfl | rfl | rfl <;> decide
theorem xZ {n : Int} (h : 0 ≤ n ∧ n ≤ 3) : nameW n ≠ wFence ∧ nameW n ≠ wIf ∧ nameW n ≠ wSwap ∧ nameW n ≠ wAdd ∧ (nameW n).head? ≠ some 114 := by
 rcases (by omega : n = 0 ∨ n = 1 ∨ n = 2 ∨ n = 3) with rfl | rfl | rfl | rfl <;> decide
theorem iG {d n : Int} (hd : 0 ≤ d ∧ d ≤ 4) : valW d n ≠ wSwap ∧ valW d n ≠ wAdd := by
 by_cases h : 0 < d
 ·rw [aY _ h]
  rcases sQ (n := d) ⟨by omega, hd.2⟩ with rfl | rfl | rfl | rfl <;> decide
 ·have : d = 0 := by omega
  subst this
  rw [aZ]
  have hno : ∀ w : Bt, (∃ c ∈ w, 57 < c.toNat) → decDigits n.toNat ≠ w := fun w ⟨c, hc, h⟩ e => by
   have := dL (u := n.toNat) c (by rw [e]; exact hc)
   omega
  exact ⟨hno _ ⟨115, by decide, by decide⟩, hno _ ⟨97, by decide, by decide⟩⟩
theorem stepW_words {s : Stp} (h : s.right = true) (hn : s.n32) : stepW (wordsOf s) = some s := by
 cases aB h with
 | fence p q hp hq =>
  show stepW [wFence, setW p, setW q] = _
  unfold stepW
  rw [if_pos (by rfl)]
  simp only [fenceOf, eA hp, eA hq, Option.bind_some, Option.map_some]
 | cond n hc =>
  show stepW [wIf, regW n] = _
  unfold stepW
  rw [if_neg (by simp [wIf, wFence]), if_pos (by rfl)]
  simp only [ifOf, zA hc, Option.map_some]
 | load r v b a l hr hv hb =>
  show stepW (regW r :: wEq :: nameW v :: tailW b a l) = _
  unfold stepW
  rw [if_neg (by exact (zK hr).1), if_neg (by exact (zK hr).2), if_neg (by simp), if_neg (by exact (xZ hv).2.2.1), if_neg (by exact (xZ hv).2.2.2.1), if_pos (by rfl)]
  simp only [loadOf, zA hr, yQ hv, aJ hb, Option.bind_some, Option.map_some]
 | store v n d b a l hv hb hd h0 =>
  show stepW (nameW v :: wEq :: valW d n :: tailW b a l) = _
  unfold stepW
  rw [if_neg (by exact (xZ hv).1), if_neg (by exact (xZ hv).2.1), if_neg (by simp), if_neg (by exact (iG hd).1), if_neg (by exact (iG hd).2), if_neg (by exact (xZ hv).2.2.2.2)]
  simp only [storeOf, yQ hv, eD hd h0 hn, aJ hb, Option.bind_some, Option.map_some]
 | both k r v n d b a l hk hr hv hb hd h0 =>
  rcases hk with rfl | rfl
  ·show stepW (regW r :: wEq :: wSwap :: nameW v :: valW d n :: tailW b a l) = _
   unfold stepW
   rw [if_neg (by exact (zK hr).1), if_neg (by exact (zK hr).2), if_neg (by simp), if_pos (by rfl)]
   simp only [bothOf, zA hr, yQ hv, eD hd h0 hn, aJ hb, Option.bind_some, Option.map_some]
  ·show stepW (regW r :: wEq :: wAdd :: nameW v :: valW d n :: tailW b a l) = _
   unfold stepW
   rw [if_neg (by exact (zK hr).1), if_neg (by exact (zK hr).2), if_neg (by simp), if_neg (by exact (by decide : wAdd ≠ wSwap)), if_pos (by rfl)]
   simp only [bothOf, zA hr, yQ hv, eD hd h0 hn, aJ hb, Option.bind_some, Option.map_some]
theorem stepW_some {ws : List Bt} {s : Stp} (h : stepW ws = some s) : s.right = true ∧ s.n32 ∧ wordsOf s = ws := by
 unfold stepW at h
 split at h
 ·rename_i h0
  rcases ws with _ | ⟨x, _ | ⟨a, _ | ⟨b, _ | ⟨c, r⟩⟩⟩⟩ <;> first | (simp [fenceOf] at h; done) | skip
  simp only [fenceOf] at h
  obtain ⟨p, hp, h⟩ := Option.bind_eq_some_iff.1 h
  obtain ⟨q, hq, rfl⟩ := Option.map_eq_some_iff.1 h
  have h1 := dZ hp
  have h2 := dZ hq
  refine ⟨gY h1.1 h2.1, oU, ?_⟩
  show [wFence, setW p, setW q] = _
  rw [← h1.2, ← h2.2, ← h0]; rfl
 split at h
 ·rename_i h0
  rcases ws with _ | ⟨x, _ | ⟨a, _ | ⟨b, r⟩⟩⟩ <;> first | (simp [ifOf] at h; done) | skip
  simp only [ifOf] at h
  obtain ⟨p, hp, rfl⟩ := Option.map_eq_some_iff.1 h
  have h1 := yC hp
  refine ⟨oM h1.1, oU, ?_⟩
  show [wIf, regW p] = _
  rw [← h1.2, ← h0]; rfl
 split at h
 ·cases h
 rename_i h3
 obtain ⟨h3, hq⟩ := Classical.not_not.1 h3
 rcases ws with _ | ⟨x, _ | ⟨y, _ | ⟨z, r⟩⟩⟩ <;> first | (simp at h3; done) | skip
 have hq' : y = wEq := hq
 subst hq'
 have both : ∀ k w, (k = 3 ∧ w = wSwap ∨ k = 4 ∧ w = wAdd) → z = w → bothOf k (x :: wEq :: z :: r) = some s → s.right = true ∧ s.n32 ∧ wordsOf s = x :: wEq :: z :: r := by
  intro k w hk hz h
  rcases r with _ | ⟨v, _ | ⟨o, r⟩⟩ <;> first | (simp [bothOf] at h; done) | skip
  simp only [bothOf] at h
  obtain ⟨r1, e1, h⟩ := Option.bind_eq_some_iff.1 h
  obtain ⟨v1, e2, h⟩ := Option.bind_eq_some_iff.1 h
  obtain ⟨o1, e3, h⟩ := Option.bind_eq_some_iff.1 h
  obtain ⟨x1, e4, rfl⟩ := Option.map_eq_some_iff.1 h
  have g1 := yC e1
  have g2 := aM e2
  have g3 := hU e3
  have g4 := bZ e4
  refine ⟨jI (hk.imp And.left And.left) g1.1 g2.1 g4.2 g3.2.1 g3.2.2.1, g3.2.2.2, ?_⟩
  rw [hz, g1.2, g2.2, g4.1]
  conv => rhs; rw [g3.1]
  rcases hk with ⟨rfl, rfl⟩ | ⟨rfl, rfl⟩ <;> rfl
 split at h
 ·rename_i hz
  exact both 3 wSwap (Or.inl ⟨rfl, rfl⟩) hz h
 split at h
 ·rename_i hz
  exact both 4 wAdd (Or.inr ⟨rfl, rfl⟩) hz h
 split at h
 ·simp only [loadOf] at h
  obtain ⟨r1, e1, h⟩ := Option.bind_eq_some_iff.1 h
  obtain ⟨v1, e2, h⟩ := Option.bind_eq_some_iff.1 h
  obtain ⟨x1, e4, rfl⟩ := Option.map_eq_some_iff.1 h
  have g1 := yC e1
  have g2 := aM e2
  have g4 := bZ e4
  refine ⟨jH g1.1 g2.1 g4.2, oU, ?_⟩
  rw [g1.2, g2.2, g4.1]; rfl
 ·simp only [storeOf] at h
  obtain ⟨v1, e2, h⟩ := Option.bind_eq_some_iff.1 h
  obtain ⟨o1, e3, h⟩ := Option.bind_eq_some_iff.1 h
  obtain ⟨x1, e4, rfl⟩ := Option.map_eq_some_iff.1 h
  have g2 := aM e2
  have g3 := hU e3
  have g4 := bZ e4
  refine ⟨gX g2.1 g4.2 g3.2.1 g3.2.2.1, g3.2.2.2, ?_⟩
  rw [g2.2, g4.1]
  conv => rhs; rw [g3.1]
  rfl
def lineB (s : Stp) : Bt := joinC 32 (wordsOf s)
def stepB (l : Bt) : Option Stp := stepW (splitC 32 l)
theorem fE {n : Int} (h : 1 ≤ n ∧ n ≤ 4) : (32 : UInt8) ∉ regW n ∧ (10 : UInt8) ∉ regW n := by
 rcases sQ h with rfl | rfl | rfl | rfl <;> decide
theorem fH {n : Int} (h : 0 ≤ n ∧ n ≤ 3) : (32 : UInt8) ∉ nameW n ∧ (10 : UInt8) ∉ nameW n := by
 rcases (by omega : n = 0 ∨ n = 1 ∨ n = 2 ∨ n = 3) with rfl | rfl | rfl | rfl <;> decide
theorem rH {n : Int} (h : 1 ≤ n ∧ n ≤ 3) : (32 : UInt8) ∉ setW n ∧ (10 : UInt8) ∉ setW n := by
 rcases (by omega : n = 1 ∨ n = 2 ∨ n = 3) with rfl | rfl | rfl <;> decide
theorem dec_no (u : Nat) : (32 : UInt8) ∉ decDigits u ∧ (10 : UInt8) ∉ decDigits u :=
 ⟨fun h => absurd (dL 32 h).1 (by decide), fun h => absurd (dL 10 h).1 (by decide)⟩
theorem mQ {d : Int} (n : Int) (hd : 0 ≤ d ∧ d ≤ 4) : (32 : UInt8) ∉ valW d n ∧ (10 : UInt8) ∉ valW d n := by
 by_cases h : 0 < d
 ·rw [aY _ h]; exact fE ⟨by omega, hd.2⟩
 ·have : d = 0 := by omega
  subst this
  rw [aZ]; exact dec_no _
theorem eW {b : Int} (hb : 0 ≤ b ∧ b ≤ 4) (a r : Bool) : ∀ w ∈ tailW b a r, (32 : UInt8) ∉ w ∧ (10 : UInt8) ∉ w := by
 rcases (by omega : b = 0 ∨ b = 1 ∨ b = 2 ∨ b = 3 ∨ b = 4) with rfl | rfl | rfl | rfl | rfl <;> cases a <;> cases r <;> decide
theorem oC {s : Stp} (h : s.right = true) : ∀ w ∈ wordsOf s, (32 : UInt8) ∉ w ∧ (10 : UInt8) ∉ w := by
 have lit : ∀ w : Bt, w ∈ [wFence, wIf, wSwap, wAdd, wEq] → (32 : UInt8) ∉ w ∧ (10 : UInt8) ∉ w := by decide
 cases aB h with
 | fence p q hp hq =>
  show ∀ w ∈ [wFence, setW p, setW q], _
  simp only [List.forall_mem_cons, List.not_mem_nil, false_implies, implies_true, and_true]
  exact ⟨lit _ (by simp), rH hp, rH hq⟩
 | cond n hc =>
  show ∀ w ∈ [wIf, regW n], _
  simp only [List.forall_mem_cons, List.not_mem_nil, false_implies, implies_true, and_true]
  exact ⟨lit _ (by simp), fE hc⟩
 | load r v b a l hr hv hb =>
  show ∀ w ∈ regW r :: wEq :: nameW v :: tailW b a l, _
  simp only [List.forall_mem_cons]
  exact ⟨fE hr, lit _ (by simp), fH hv, eW hb a l⟩
 | store v n d b a l hv hb hd h0 =>
  show ∀ w ∈ nameW v :: wEq :: valW d n :: tailW b a l, _
  simp only [List.forall_mem_cons]
  exact ⟨fH hv, lit _ (by simp), mQ n hd, eW hb a l⟩
 | both k r v n d b a l hk hr hv hb hd h0 =>
  rcases hk with rfl | rfl
  ·show ∀ w ∈ regW r :: wEq :: wSwap :: nameW v :: valW d n :: tailW b a l, _
   simp only [List.forall_mem_cons]
   exact ⟨fE hr, lit _ (by simp), lit _ (by simp), fH hv, mQ n hd, eW hb a l⟩
  ·show ∀ w ∈ regW r :: wEq :: wAdd :: nameW v :: valW d n :: tailW b a l, _
   simp only [List.forall_mem_cons]
   exact ⟨fE hr, lit _ (by simp), lit _ (by simp), fH hv, mQ n hd, eW hb a l⟩
theorem words_ne (s : Stp) : wordsOf s ≠ [] := by
 unfold wordsOf
 (repeat' split) <;> simp
theorem split_line {s : Stp} (h : s.right = true) : splitC 32 (lineB s) = wordsOf s := dY 32 _ (words_ne s) fun w hw => (oC h w hw).1
theorem lC {l : Bt} {s : Stp} : stepB l = some s ↔ s.right = true ∧ s.n32 ∧ lineB s = l := by
 constructor
 ·intro h
  obtain ⟨h1, h2, h3⟩ := stepW_some h
  refine ⟨h1, h2, ?_⟩
  unfold lineB
  rw [h3, eG]
 ·rintro ⟨h1, h2, rfl⟩
  unfold stepB
  rw [split_line h1]
  exact stepW_words h1 h2
end
variable {x : Operand} {tm : Tm} {σ : Store} {w w' : World} {M : Mem} {kd : TypeDesc} {P : Program} {kt : TypeId} {b B : Nat} {K : Tm → Store → Prop} {o : Oper} {g : Gh} {t : TV} {y : OV} {L : List (Value × TV)} {r : Option TV} {R : OV → Store → Prop} {q : IntKind} {xs : List Int} {l : List (Int × Int)} {α : Type}
abbrev Ts := List (List Stp)
def capI (n : Int) : Int := if 10001 < n then 10001 else n
def sStep (p : List Int × Int) (s : Stp) : List Int × Int := bif s.sts then (p.1.set s.var.toNat (p.1.getD s.var.toNat 0 + 1), capI (p.2 * (p.1.getD s.var.toNat 0 + 1))) else p
def lStep (m : List Int) (n : Int) (s : Stp) : Int := bif s.lds && s.sts then capI (n * m.getD s.var.toNat 0) else bif s.lds then capI (n * (m.getD s.var.toNat 0 + 1)) else n
def sAll (l : List Stp) : List Int × Int := l.foldl sStep ([0, 0, 0, 0], 1)
def waysT (t : Ts) : Int := t.flatten.foldl (lStep (sAll t.flatten).1) (sAll t.flatten).2
def accs (l : List Stp) : Nat := (l.filter Stp.acc).length
def threadOk (l : List Stp) : Bool := decide (l.length ≤ 16) && l.all Stp.right
def checkT (t : Ts) : Int :=
 if t.length < 1 ∨ 4 < t.length then 2
 else if t.all threadOk = false then 2
 else if 8 < accs t.flatten ∨ 10000 < waysT t then 2 else 0
section
open Go.Lib
def cutC (c : UInt8) : Bt → Bt × Bt × Bool
 | [] => ([], [], false)
 | x :: l => if x = c then ([], l, true) else (x :: (cutC c l).1, (cutC c l).2)
theorem sI (c : UInt8) : ∀ l : Bt, (cutC c l).2.1.length ≤ l.length
 | [] => by simp [cutC]
 | x :: l => by
  rw [cutC]
  split
  ·simp
  ·have := sI c l
   simp only [List.length_cons]; omega
theorem fU (c : UInt8) {l : Bt} (h : l ≠ []) : (cutC c l).2.1.length < l.length := by
 cases l with
 | nil => exact absurd rfl h
 | cons x l =>
  rw [cutC]
  split
  ·simp
  ·have := sI c l
   simp only [List.length_cons]; omega
def addS (t : Ts) (s : Stp) : Ts := t.set (t.length - 1) (t.getD (t.length - 1) [] ++ [s])
theorem mN (a : Ts) (l : List Stp) (s : Stp) : addS (a ++ [l]) s = a ++ [l ++ [s]] := by
 unfold addS
 have e : (a ++ [l]).length - 1 = a.length := by simp
 have e2 : (a ++ [l]).getD a.length [] = l := by simp
 rw [e, e2, List.set_append_right _ _ (Nat.le_refl _)]
 simp
def parseGo : Nat → Bt → Ts → Int → Ts × Int × Int
 | 0, _, _, _ => ([], 0, 0)
 | f + 1, text, t, n =>
  if text = [] then (if checkT t = 0 then (t, 0, 0) else ([], 0, 190))
  else if (cutC 10 text).2.2 = true ∧ (cutC 10 text).1 = wHart ∧ t.length < 4 then parseGo f (cutC 10 text).2.1 (t ++ [[]]) (n + 1)
  else match stepB (cutC 10 text).1 with
   | none => ([], n, 190)
   | some s => if (cutC 10 text).2.2 = false ∨ t.length = 0 ∨ (t.getD (t.length - 1) []).length = 16 then ([], n, 190) else parseGo f (cutC 10 text).2.1 (addS t s) (n + 1)
def parseT (text : Bt) : Ts × Int × Int := if 1048576 < text.length then ([], 0, 3) else parseGo (text.length + 1) text [] 1
theorem bR : ∀ (f f' : Nat) (text : Bt) (t : Ts) (n : Int), text.length < f → text.length < f' → parseGo f text t n = parseGo f' text t n
 | 0, _, _, _, _, h, _ => absurd h (by omega)
 | _, 0, _, _, _, _, h => absurd h (by omega)
 | f + 1, f' + 1, text, t, n, h, h' => by
  rw [parseGo, parseGo]
  by_cases e : text = []
  ·rw [if_pos e, if_pos e]
  ·have hl := fU 10 e
   rw [if_neg e, if_neg e]
   split
   ·exact bR f f' _ _ _ (by omega) (by omega)
   ·cases stepB (cutC 10 text).1 with
    | none => rfl
    | some s =>
     dsimp only
     split
     ·rfl
     ·exact bR f f' _ _ _ (by omega) (by omega)
theorem checkT_ok {t : Ts} (h : checkT t = 0) : 1 ≤ t.length ∧ t.length ≤ 4 ∧ ∀ l ∈ t, l.length ≤ 16 ∧ ∀ s ∈ l, s.right = true := by
 unfold checkT at h
 split at h
 ·cases h
 ·rename_i h1
  split at h
  ·cases h
  ·rename_i h2
   refine ⟨by omega, by omega, fun l hl => ?_⟩
   have := List.all_eq_true.1 (by simpa using h2 : t.all threadOk = true) l hl
   unfold threadOk at this
   simp only [Bool.and_eq_true, decide_eq_true_eq] at this
   exact ⟨this.1, List.all_eq_true.1 this.2⟩
theorem yP (n : Int) : (regW n).length = 2 := rfl
theorem dG (n : Int) : (nameW n).length ≤ 1 := by
 unfold nameW
 rcases n.toNat with _ | _ | _ | _ | k <;> simp
theorem oH (n : Int) : (setW n).length ≤ 2 := by
 unfold setW
 rcases n.toNat with _ | _ | _ | _ | k <;> simp
theorem dec_len (n : Nat) (h : n ≤ 4294967295) : (decDigits n).length ≤ 20 := by
 rw [decDigits_length]; exact nDigits_le20 n (by omega)
theorem iZ {d n : Int} (hn : 0 ≤ n ∧ n ≤ 4294967295) : (valW d n).length ≤ 20 := by
 unfold valW
 split
 ·rw [yP]; omega
 ·exact dec_len _ (by omega)
end
set_option maxRecDepth 100000
section
variable {E : Env} {v j : Nat} {ops : Array Oper} {K : Tm → Store → Prop} {rest : List Oper} {tm : Tm} {σ : Store} {dst : Option Tmp} {ty : TypeId} {pos : String} {af : Array Edge}
theorem S_convU {S T : TypeId} {k : IntKind} {n : Int} {se te : TE} (hS : E.tab S = some se) (hT : E.tab T = some te) (hk : te.k = .sc (.int .u64)) (hs : se.k = .sc (.int k)) (hx : ev tm x = some (.int k n)) (h : 0 ≤ n ∧ n ≤ 18446744073709551615) (hc : AO E.P v ops K (j + 1) rest (tm.putO dst (.int .u64 n)) σ) : AO E.P v ops K j (⟨dst, .convert S T x, ty, pos, af, none⟩ :: rest) tm σ := by
 have e : IntKind.u64.wrap n = n := by rw [IntKind.wrap_u64]; omega
 refine uQ (nX hS hT hk hs hx) ?_
 rw [e]; exact hc
end
abbrev strTV (v : Bt) : TV := .c (.string ⟨v.toArray⟩)
def setsTV : List TV := [strTV [], strTV [119], strTV [114], strTV [114, 119]]
def fenceTV (p q : Int) : List TV := [.c (.int .i64 5), .c (.int .i64 0), .c (.int .i64 0), .c (.int .u32 0), .c (.int .i64 0), .c (.int .i64 0), .c (.bool false), .c (.bool false), .c (.int .i64 p), .c (.int .i64 q)]
section
open Go.RowKit Go.Maps Go.ChangeMaps
section
variable {P : Program} {v j : Nat} {tm : Tm} {σ : Store} {dst : Option Tmp} {ty : TypeId} {pos : String} {af : Array Edge} {gd : Option (Nat × Bool)}
def OpKJ (P : Program) (v j : Nat) (o : Oper) (tm : Tm) (σ : Store) (Jw : World → Prop) (K : OV → Store → Prop) : Prop :=
 ∀ (Γ : Ctx) (G : Gh) (ρ : Operand → Value) (w : World), Γ.N ≤ v → (∀ k, G.μ k (v, j) = none) → (∀ x ∈ o.op.operands, ∀ y, ev tm x = some y → RepO G y (ρ x)) → WRel Γ G σ w → Jw w →
  NextK P Γ G v j K ((execOp ρ o).run P w)
theorem OpKJ.ok {o : Oper} {Jw : World → Prop} {K : OV → Store → Prop} (hJw : ∀ (n : Nat) (C : Cx) (G : Gh) (a : Act) (w : World), SRel n C G tm σ a w → Jw w) (h : OpKJ P v j o tm σ Jw K) : OpOk P v j o tm σ K := fun n C G a w ro next Q hd hro hN hfr hs hk => by
 have hst := hs.w.startW (σ0 := σ) (fun _ _ e => e) C.Γ.N
 have h1 := h ⟨w, Blks G σ, G, C.Γ.N⟩ G a.eval w hN hfr (fun x _ y hy => yG hs.tm hy) hst (hJw n C G a w hs)
 have lv : ∀ x w', LeavesK ⟨w, Blks G σ, G, C.Γ.N⟩ G v j K x w' → next (a.put o.dst x) w' := fun x w' ⟨G', r, σ', g1, g2, g3, g4, g5⟩ => by
  refine hk C G' (tm.putO o.dst r) σ' _ w' (.refl C) g1 g2 ⟨by rw [Act.put_size, hs.size], by rw [Act.put_defers, hs.defers], (hs.tm.mono g1).put g3 o.dst (by rw [hs.size]; exact fun d e => (hd d e).1), hs.w.backX (fun _ _ e => e) g4 (Nat.le_refl _) (fun k τ r hr => Or.inr hr), fun b ob hb => ?_, hs.marks, fun i Y hi => ?_⟩ ⟨r, rfl, g5⟩
  ·obtain ⟨e1, e2⟩ := hs.fix b ob hb
   exact ⟨(g4.keep b (Array.getElem?_eq_some_iff.1 e1).1 (hs.fix.not_own hs.w hb)).trans e1, e2⟩
  ·obtain ⟨hJ, hJg, hJf⟩ := hs.gh i Y ((yD hd r).symm.trans hi)
   refine ⟨Y.st i w w' hJ fun b hb => ?_, hJg.trans g1, hJf⟩
   obtain ⟨ob, e1, e2⟩ := Y.nc i w b hJ hb
   refine g4.keep b (Array.getElem?_eq_some_iff.1 e1).1 fun ⟨k, τ, r', β, f1, f2, f3⟩ => ?_
   obtain ⟨cs, f4, _⟩ := hs.w.blk f1 f2
   rw [f3, e1] at f4
   cases f4; cases e2
 have hsem : o.semAt ro a.eval = execOp a.eval o := by
  refine Oper.semAt_eq ro a.eval o fun c hc => ?_
  have e : execOp a.eval o = (do pure (.defer (← resolve a.eval c o.type)) : Sem Next) := by
   simp only [execOp, hc]
  rw [e] at h1
  simp only [Sem.run_bind] at h1
  cases hr : (resolve a.eval c o.type).run P w with
  | ok d w' => rw [hr] at h1; simp [NextK] at h1
  | halt x w' => rw [hr] at h1; simp [NextK] at h1
 unfold Oper.wpIn
 refine ⟨fun _ _ => trivial, ?_⟩
 rw [show (wideR ro).round = ro from rfl, hsem]
 generalize (execOp a.eval o).run P w = r at *
 cases r with
 | ok nx w' =>
  cases nx <;> simp only [NextK] at h1 <;> simp only [Oper.uponIn]
  case value x => exact lv _ _ h1
  case skip => exact lv _ _ h1
  case enter f args =>
   refine ⟨fun e => (by cases e), ?_⟩
   exact (show CallsIn (wideR ro) (0 - 1) P f args w' _ from callsIn_wide.2 (h1.mono fun e w'' ⟨x, h2, h3⟩ => by subst h2; exact lv _ _ h3))
 | halt x w' => simp only [NextK] at h1
end
section
variable {P : Program} {v j : Nat} {ops : Array Oper} {Q : Tm → Store → Prop} {rest : List Oper} {tm : Tm} {σ : Store} {dst : Option Tmp} {ty : TypeId} {pos : String} {af : Array Edge}
end
def Tm.sub (tx tm : Tm) : Prop := ∀ t y, tx t = some y → (t ≠ GS ∧ ∃ i Y, y = .gh i Y) ∨ tm t = some y
theorem SRel.sub {n : Nat} {C : Cx} {G : Gh} {tx : Tm} {a : Act} (hs : SRel n C G tm σ a w) (h : tx.sub tm) : SRel n C G tx σ a w :=
 ⟨hs.size, hs.defers, fun t y ht => by
  rcases h t y ht with ⟨_, i, Y, rfl⟩ | h1
  ·exact Or.inl ⟨i, Y, rfl⟩
  ·exact hs.tm t y h1, hs.w, hs.fix, hs.marks, fun i Y hi => by
  rcases h GS _ hi with ⟨h1, _⟩ | h1
  ·exact (h1 rfl).elim
  ·exact hs.gh i Y h1⟩
end
section
open Go.RowKit Go.Maps Go.ChangeMaps
def FE (M : Mem) : List (Value × TV) → List MapEntry → Prop
 | [], es => es = []
 | (k, t) :: L, es => ∃ v c es', es = ⟨k, v, c⟩ :: es' ∧ Rep M t v ∧ FE M L es'
theorem FE.mono {M' : Mem} (h : M.le M') : ∀ (L : List (Value × TV)) (es : List MapEntry), FE M L es → FE M' L es
 | [], _, e => e
 | (k, t) :: L, es, ⟨v, c, es', e1, e2, e3⟩ => ⟨v, c, es', e1, Rep.mono h t v e2, FE.mono h L es' e3⟩
theorem FE.snoc : ∀ {L : List (Value × TV)} {es : List MapEntry} {k v : Value} {t : TV} (c : Nat), FE M L es → Rep M t v → FE M (L ++ [(k, t)]) (es ++ [⟨k, v, c⟩])
 | [], _, k, v, t, c, rfl, h => ⟨v, c, [], rfl, h, rfl⟩
 | (k0, t0) :: L, _, k, v, t, c, ⟨v0, c0, es', rfl, e2, e3⟩, h => ⟨v0, c0, es' ++ [⟨k, v, c⟩], rfl, e2, FE.snoc c e3 h⟩
def lookV (kd : TypeDesc) (k : Value) : List (Value × TV) → Option (Option TV)
 | [] => some none
 | (k', t) :: L => match Instr.sameNow kd k k' with
  | some true => some (some t)
  | some false => lookV kd k L
  | none => none
theorem FE.find {k : Value} : ∀ {L : List (Value × TV)} {es : List MapEntry} {r : Option TV} (i : Nat), FE M L es → lookV kd k L = some r →
  match r with
  | none => Instr.findNow kd k es i = some none
  | some t => ∃ j v, Instr.findNow kd k es i = some (some (j, v)) ∧ Rep M t v
 | [], _, r, i, rfl, h => by cases h; rfl
 | (k0, t0) :: L, _, r, i, ⟨v0, c0, es', rfl, e2, e3⟩, h => by
  unfold lookV at h
  cases hs : Instr.sameNow kd k k0 with
  | none => rw [hs] at h; cases h
  | some b =>
   rw [hs] at h
   cases b with
   | true =>
    cases h
    exact ⟨i, v0, by simp [Instr.findNow, hs], e2⟩
   | false =>
    have := FE.find (i + 1) e3 h
    cases r with
    | none => simpa [Instr.findNow, hs] using this
    | some t => simpa [Instr.findNow, hs] using this
def fnmY (g : Gh) (b : Nat) (L : List (Value × TV)) : YJ where
 g := g
 J i w := ∃ es clock, w.heap[b]? = some (.map es clock) ∧ FE g.M L es.toList
 D x := x = b
 st i w w' := fun ⟨es, clock, h, r⟩ h' => ⟨es, clock, (h' b rfl).trans h, r⟩
 nc i w x := fun ⟨es, clock, h, _⟩ hx => ⟨.map es clock, by rw [show x = b from hx]; exact h, rfl⟩
inductive PKey (P : Program) (kt : TypeId) : TypeDesc → Value → Prop where
 | int {q : IntKind} {c : Int} (h : P.underlying kt = some (.int q)) : PKey P kt (.int q) (.int q c)
 | str {s : ByteArray} (h : P.underlying kt = some .string) : PKey P kt .string (.string s)
theorem PKey.desc {k : Value} (h : PKey P kt kd k) : P.underlying kt = some kd := by cases h <;> assumption
theorem PKey.check {k : Value} (h : PKey P kt kd k) (em : Bool) (w : World) : (Instr.checkKey em 10000 kt k).run P w = .ok () w := by
 cases h with
 | int h =>
  show (Instr.checkKey em (9999 + 1) kt _).run P w = _
  unfold Instr.checkKey
  simp only [Sem.run_bind, run_underlying h, Result.andThen_ok, Sem.run_pure]
 | str h =>
  show (Instr.checkKey em (9999 + 1) kt _).run P w = _
  unfold Instr.checkKey
  simp only [Sem.run_bind, run_underlying h, Result.andThen_ok, Sem.run_pure]
theorem cB {es : Array MapEntry} {c : Nat} (hb : w.heap[b]? = some (.map es c)) : (getObj b).run P w = .ok (.map es c) w := by
 simp [getObj, Sem.run, hb]
section
variable {P : Program} {v j : Nat} {tm : Tm} {σ : Store} {dst : Option Tmp} {ty : TypeId} {pos : String} {af : Array Edge} {gd : Option (Nat × Bool)}
theorem makeF_ok {T : TypeId} (hK : ∀ g b, K ((tm.putO dst (.d (.c (.map (some b))))).put GS (.gh 0 (fnmY g b []))) σ) :
  OpT P v j ⟨dst, .makeMap T none, ty, pos, af, gd⟩ tm σ K := fun n C G a w ro next Q hd hro hN hfr hs hk => by
 have old : ∀ b, b < w.heap.size → (w.alloc (.map #[] 0)).heap[b]? = w.heap[b]? := fun b hb => by
  show (w.heap.push _)[b]? = _
  rw [Array.getElem?_push_lt hb, Array.getElem?_eq_getElem hb]
 unfold Oper.wpIn
 refine ⟨fun _ _ => trivial, ?_⟩
 rw [show (wideR ro).round = ro from rfl, Oper.semAt_eq ro a.eval _ (fun c hc => by cases hc)]
 have hrun : (execOp a.eval ⟨dst, .makeMap T none, ty, pos, af, gd⟩).run P w = .ok (.value (.map (some w.heap.size))) (w.alloc (.map #[] 0)) := by
  simp [execOp, run_makeMap, Result.andThen]
 rw [hrun]
 have hsz : C.Γ.w0.heap.size ≤ w.heap.size := hs.w.size
 refine hk ⟨C.Γ, C.fix, C.defs, C.ro, C.base, fun b => C.dD b ∨ b = w.heap.size, fun b hb => hb.elim (C.dok b) fun e => Or.inl (by rw [e]; exact hsz), C.bok, C.d0⟩ G _ σ _ _ ⟨rfl, rfl, rfl, fun b h => Or.inl h, fun _ _ h => h, rfl⟩ (.refl G) (fun _ _ _ _ _ => rfl)
  ⟨by rw [Act.put_size, hs.size], by rw [Act.put_defers, hs.defers], fun t y ht => ?_, hs.w.allocNon _, fun b' ob' hb' => ?_, hs.marks, fun i2 Y2 hi => ?_⟩ (hK G w.heap.size)
 ·by_cases hn' : t = GS
  ·subst hn'
   rw [Tm.put_self] at ht
   exact Or.inl ⟨_, _, (Option.some.inj ht).symm⟩
  ·rw [Tm.put_ne _ _ hn'] at ht
   exact (hs.tm.mono (.refl G)).put (by rw [RepO, Rep]; exact ⟨rfl, rfl⟩) dst (by rw [hs.size]; exact fun d e => (hd d e).1) t y ht
 ·obtain ⟨q1, q2⟩ := hs.fix b' ob' hb'
  exact ⟨(old b' (Array.getElem?_eq_some_iff.1 q1).1).trans q1, q2⟩
 ·rw [Tm.put_self] at hi
  cases hi
  refine ⟨(show ∃ es clock, (w.alloc (.map #[] 0)).heap[w.heap.size]? = some (.map es clock) ∧ FE G.M [] es.toList from ⟨#[], 0, by show (w.heap.push _)[w.heap.size]? = _; simp, rfl⟩), (show G.le G from .refl G), fun b' ob' hb' hD' => ?_, fun b' hb' => Or.inr (show b' = w.heap.size from hb')⟩
  have := (Array.getElem?_eq_some_iff.1 (hs.fix b' ob' hb').1).1
  have h9 : b' = w.heap.size := hD'
  omega
theorem insF_ok {T e : TypeId} {m z : Operand} {i : Nat} {k : Value} (ho : o = ⟨dst, .insert T m x z, ty, pos, af, gd⟩ ∨ o = ⟨dst, .mapUpdate T m x z, ty, pos, af, gd⟩) (hT : P.underlying T = some (.map kt e)) (hm : ev tm m = some (.d (.c (.map (some b))))) (hx : ev tm x = some (.d (.c k))) (hk : PKey P kt kd k) (hz : ev tm z = some y) (hy : y.toTV = some t) (hg : tm GS = some (.gh i (fnmY g b L))) (hn : lookV kd k L = some none) (hK : ∀ g', K ((tm.putO dst .un).put GS (.gh 0 (fnmY g' b (L ++ [(k, t)])))) σ) : OpT P v j o tm σ K := fun n C G a w ro next Q hd hro hN hfr hs hkk => by
 have hdst : o.dst = dst := by rcases ho with rfl | rfl <;> rfl
 obtain ⟨⟨es, clock, hb, hE⟩, hJg, hJf1, hJf2⟩ := hs.gh i _ hg
 have hbD : (fnmY g b L).D b := rfl
 have hS : C.Γ.w0.heap.size ≤ b ∨ C.Γ.S b := C.dok b (hJf2 b hbD)
 have r1 := vA (yG hs.tm hm)
 have r2 := vA (yG hs.tm hx)
 have r3 : Rep G.M t (a.eval z) := OV.toTV_rep y t _ hy (yG hs.tm hz)
 have hf := FE.find 0 hE hn
 have hrun : (execOp a.eval o).run P w = .ok .skip (w.putObj b (.map (es.push ⟨k, a.eval z, clock⟩) (clock + 1))) := by
  have hu : (Instr.mapUpdate T (a.eval m) (a.eval x) (a.eval z)).run P w = .ok () (w.putObj b (.map (es.push ⟨k, a.eval z, clock⟩) (clock + 1))) := by
   have hfk : (Instr.findKey kt k es.toList).run P w = .ok none w := by
    simp only [Instr.findKey, Sem.run_bind, run_underlying hk.desc, Result.andThen_ok, hf, Sem.run_pure]
   have hset : (setObj b (.map (es.push ⟨k, a.eval z, clock⟩) (clock + 1))).run P w = .ok () (w.putObj b (.map (es.push ⟨k, a.eval z, clock⟩) (clock + 1))) := by
    simp [setObj, Sem.run, hb, World.putObj]
   simp only [Instr.mapUpdate, r1, r2, Sem.run_bind, run_underlying hT, Result.andThen_ok, cB hb, hk.check, hfk, hset]
  rcases ho with rfl | rfl <;> simp only [execOp, Sem.run_bind, hu, Result.andThen_ok, Sem.run_pure]
 have hE' : FE G.M (L ++ [(k, t)]) (es.push ⟨k, a.eval z, clock⟩).toList := by
  rw [Array.toList_push]
  exact FE.snoc clock (FE.mono hJg.1 L _ hE) r3
 have nx : next (a.put o.dst undef) (w.putObj b (.map (es.push ⟨k, a.eval z, clock⟩) (clock + 1))) := by
  rw [hdst]
  rw [hdst] at hd
  refine hkk C G _ σ _ _ (.refl C) (.refl G) (fun _ _ _ _ _ => rfl) ⟨by rw [Act.put_size, hs.size], by rw [Act.put_defers, hs.defers], fun t y ht => ?_, hs.w.putNon hb rfl hS, fun b' ob' hb' => ?_, hs.marks, fun i2 Y2 hi => ?_⟩ (hK G)
  ·by_cases hn' : t = GS
   ·subst hn'
    rw [Tm.put_self] at ht
    exact Or.inl ⟨_, _, (Option.some.inj ht).symm⟩
   ·rw [Tm.put_ne _ _ hn'] at ht
    exact (hs.tm.mono (.refl G)).put (mR G) dst (by rw [hs.size]; exact fun d e => (hd d e).1) t y ht
  ·obtain ⟨q1, q2⟩ := hs.fix b' ob' hb'
   exact ⟨(World.putObj_heap_other fun e => hJf1 b' ob' hb' (by rw [e]; exact hbD)).trans q1, q2⟩
  ·rw [Tm.put_self] at hi
   cases hi
   refine ⟨⟨_, _, World.putObj_heap_same (Array.getElem?_eq_some_iff.1 hb).1, hE'⟩, Gh.le.refl G, fun b' ob' hb' hD' => hJf1 b' ob' hb' hD', fun b' hb' => hJf2 b' hb'⟩
 unfold Oper.wpIn
 refine ⟨fun _ _ => trivial, ?_⟩
 rw [show (wideR ro).round = ro from rfl, Oper.semAt_eq ro a.eval o fun c hc => by rcases ho with rfl | rfl <;> cases hc]
 rw [hrun]; exact nx
theorem fA {K : OV → Store → Prop} (hdf : ∀ c, o.op ≠ .defer c) (h : ∀ (n : Nat) (C : Cx) (G : Gh) (a : Act) (w : World), SRel n C G tm σ a w → ∃ x r, (execOp a.eval o).run P w = .ok (.value x) w ∧ RepO G r x ∧ K r σ) : OpOk P v j o tm σ K := fun n C G a w ro next Q hd hro hN hfr hs hkk => by
 obtain ⟨x, r, h1, h2, h3⟩ := h n C G a w hs
 unfold Oper.wpIn
 refine ⟨fun _ _ => trivial, ?_⟩
 rw [show (wideR ro).round = ro from rfl, Oper.semAt_eq ro a.eval o fun c hc => (hdf c hc).elim, h1]
 exact hkk C G (tm.putO o.dst r) σ _ w (.refl C) (.refl G) (fun _ _ _ _ _ => rfl) ⟨by rw [Act.put_size, hs.size], by rw [Act.put_defers, hs.defers], (hs.tm.mono (.refl G)).put h2 o.dst (by rw [hs.size]; exact fun d e => (hd d e).1), hs.w, hs.fix, hs.marks, fun i Y hi => hs.gh i Y ((yD hd r).symm.trans hi)⟩ ⟨r, rfl, h3⟩
theorem lookFok_ok {T e : TypeId} {K : OV → Store → Prop} {m : Operand} {i : Nat} {k : Value} (hT : P.underlying T = some (.map kt e)) (hz : ∀ w, (zeroValue e).run P w = .ok .nilFunc w) (hm : ev tm m = some (.d (.c (.map (some b))))) (hx : ev tm x = some (.d (.c k))) (hk : PKey P kt kd k) (hg : tm GS = some (.gh i (fnmY g b L))) (hn : lookV kd k L = some r) (hK : K (.tu [.d (r.getD (.c .nilFunc)), .bool r.isSome]) σ) : OpOk P v j ⟨dst, .lookup T m x true, ty, pos, af, gd⟩ tm σ K := fA (fun c h => by cases h) fun n C G a w hs => by
 obtain ⟨⟨es, clock, hb, hE⟩, hJg, _⟩ := hs.gh i _ hg
 have r1 := vA (yG hs.tm hm)
 have r2 := vA (yG hs.tm hx)
 cases r with
 | none =>
  have hf := FE.find 0 hE hn
  have hfk : (Instr.findKey kt k es.toList).run P w = .ok none w := by
   simp only [Instr.findKey, Sem.run_bind, run_underlying hk.desc, Result.andThen_ok, hf, Sem.run_pure]
  refine ⟨.tuple #[.nilFunc, .bool false], _, by simp only [execOp, Instr.lookup, r1, r2, Sem.run_bind, run_underlying hT, Result.andThen_ok, cB hb, hk.check, hfk, hz, Sem.run_pure]; rfl, ?_, hK⟩
  rw [RepO]
  refine ⟨_, rfl, ?_⟩
  rw [RepOL]
  refine ⟨_, _, rfl, wE rfl, ?_⟩
  rw [RepOL]
  exact ⟨_, _, rfl, wE rfl, by rw [RepOL]⟩
 | some t =>
  obtain ⟨q, u, hf, hu⟩ := FE.find 0 hE hn
  have hfk : (Instr.findKey kt k es.toList).run P w = .ok (some (q, u)) w := by
   simp only [Instr.findKey, Sem.run_bind, run_underlying hk.desc, Result.andThen_ok, hf, Sem.run_pure]
  refine ⟨.tuple #[u, .bool true], _, by simp only [execOp, Instr.lookup, r1, r2, Sem.run_bind, run_underlying hT, Result.andThen_ok, cB hb, hk.check, hfk, Sem.run_pure]; rfl, ?_, hK⟩
  rw [RepO]
  refine ⟨_, rfl, ?_⟩
  rw [RepOL]
  refine ⟨_, _, rfl, by show RepO G (.d t) u; rw [RepO]; exact Rep.mono hJg.1 t u hu, ?_⟩
  rw [RepOL]
  exact ⟨_, _, rfl, wE rfl, by rw [RepOL]⟩
end
section
variable {P : Program} {v j : Nat} {ops : Array Oper} {Q : Tm → Store → Prop} {rest : List Oper} {tm : Tm} {σ : Store} {dst : Option Tmp} {ty : TypeId} {pos : String} {af : Array Edge}
theorem S_makeF {T : TypeId} (h : ∀ g b, AO P v ops Q (j + 1) rest ((tm.putO dst (.d (.c (.map (some b))))).put GS (.gh 0 (fnmY g b []))) σ) : AO P v ops Q j (⟨dst, .makeMap T none, ty, pos, af, none⟩ :: rest) tm σ := ao_t (makeF_ok h)
theorem qW {T e : TypeId} {m z : Operand} {i : Nat} {k : Value} (hT : P.underlying T = some (.map kt e)) (hm : ev tm m = some (.d (.c (.map (some b))))) (hx : ev tm x = some (.d (.c k))) (hk : PKey P kt kd k) (hz : ev tm z = some y) (hy : y.toTV = some t) (hg : tm GS = some (.gh i (fnmY g b L))) (hn : lookV kd k L = some none) (h : ∀ g', AO P v ops Q (j + 1) rest ((tm.putO dst .un).put GS (.gh 0 (fnmY g' b (L ++ [(k, t)])))) σ) : AO P v ops Q j (⟨dst, .insert T m x z, ty, pos, af, none⟩ :: rest) tm σ := ao_t (insF_ok (Or.inl rfl) hT hm hx hk hz hy hg hn h)
theorem xJ {T e : TypeId} {m : Operand} {i : Nat} {k : Value} (hT : P.underlying T = some (.map kt e)) (hz : ∀ w, (zeroValue e).run P w = .ok .nilFunc w) (hm : ev tm m = some (.d (.c (.map (some b))))) (hx : ev tm x = some (.d (.c k))) (hk : PKey P kt kd k) (hg : tm GS = some (.gh i (fnmY g b L))) (hn : lookV kd k L = some r) (h : AO P v ops Q (j + 1) rest (tm.putO dst (.tu [.d (r.getD (.c .nilFunc)), .bool r.isSome])) σ) : AO P v ops Q j (⟨dst, .lookup T m x true, ty, pos, af, none⟩ :: rest) tm σ := pX (lookFok_ok hT hz hm hx hk hg hn h)
end
end
set_option maxRecDepth 100000
section
open Go.RowKit Go.Lib
theorem zY (c : UInt8) : ∀ (ws vs : List Bt), ws ≠ [] → joinC c (ws ++ vs) = joinC c ws ++ (vs.map (c :: ·)).flatten
 | [], _, h => absurd rfl h
 | [w], [], _ => by simp [joinC]
 | [w], v :: vs, _ => by
  have ih := zY c [v] vs (by simp)
  rw [List.cons_append, List.nil_append] at ih
  show w ++ c :: joinC c (v :: vs) = _
  rw [ih]
  simp [joinC]
 | w :: u :: ws, vs, _ => by
  have ih := zY c (u :: ws) vs (by simp)
  rw [List.cons_append] at ih
  rw [List.cons_append, List.cons_append, joinC, ih, joinC]
  simp
def sufB (b : Int) (a r : Bool) : Bt := (if 0 < b then [32, 98, 121, 32] ++ regW b else []) ++ (if a then [32, 97, 113] else []) ++ (if r then [32, 114, 108] else [])
theorem eX (b : Int) (a r : Bool) : ((tailW b a r).map ((32 : UInt8) :: ·)).flatten = sufB b a r := by
 unfold tailW sufB
 by_cases h : 0 < b <;> cases a <;> cases r <;> simp [h, wBy, wAq, wRl]
def headB (s : Stp) : Bt :=
 if s.kind = 5 then [102, 101, 110, 99, 101, 32] ++ setW s.pred ++ [32] ++ setW s.succ
 else if s.kind = 6 then [105, 102, 32] ++ regW s.reg
 else if s.kind = 1 then regW s.reg ++ [32, 61, 32] ++ nameW s.var
 else if s.kind = 2 then nameW s.var ++ [32, 61, 32] ++ valW s.data s.num
 else if s.kind = 3 then regW s.reg ++ [32, 61, 32, 115, 119, 97, 112, 32] ++ nameW s.var ++ [32] ++ valW s.data s.num
 else regW s.reg ++ [32, 61, 32, 97, 100, 100, 32] ++ nameW s.var ++ [32] ++ valW s.data s.num
theorem line_eq {s : Stp} (h : s.right = true) : lineB s = headB s ++ sufB s.byr s.aq s.rl := by
 cases aB h with
 | fence p q hp hq => simp [lineB, wordsOf, headB, joinC, sufB, wFence]
 | cond n hn => simp [lineB, wordsOf, headB, joinC, sufB, wIf]
 | load r v b a l hr hv hb =>
  show joinC 32 ([regW r, wEq, nameW v] ++ tailW b a l) = (regW r ++ [32, 61, 32] ++ nameW v) ++ sufB b a l
  rw [zY 32 _ _ (by simp), eX]
  simp [joinC, wEq]
 | store v n d b a l hv hb hd h0 =>
  show joinC 32 ([nameW v, wEq, valW d n] ++ tailW b a l) = (nameW v ++ [32, 61, 32] ++ valW d n) ++ sufB b a l
  rw [zY 32 _ _ (by simp), eX]
  simp [joinC, wEq]
 | both k r v n d b a l hk hr hv hb hd h0 =>
  rcases hk with rfl | rfl
  ·show joinC 32 ([regW r, wEq, wSwap, nameW v, valW d n] ++ tailW b a l) = (regW r ++ [32, 61, 32, 115, 119, 97, 112, 32] ++ nameW v ++ [32] ++ valW d n) ++ sufB b a l
   rw [zY 32 _ _ (by simp), eX]
   simp [joinC, wEq, wSwap]
  ·show joinC 32 ([regW r, wEq, wAdd, nameW v, valW d n] ++ tailW b a l) = (regW r ++ [32, 61, 32, 97, 100, 100, 32] ++ nameW v ++ [32] ++ valW d n) ++ sufB b a l
   rw [zY 32 _ _ (by simp), eX]
   simp [joinC, wEq, wAdd]
set_option maxHeartbeats 1000000 in
theorem sets_p : Pure E.P 81 [] (.ag (setsTV.map .d)) := by
 refine FnW.toR ?_
 refine xL (vs := [.cell 0 134]) Tryz.func81 (by decide) rfl Tryz.ntmps81 (Nat.le_of_ble_eq_true rfl) rfl ?_
 refine rZ ?_; refine aoR fun _ => ?_
 refine rZ ?_; refine aoR fun _ => ?_
 refine rZ ?_; rotate_left
 exact uAZ rfl rfl rfl rfl rfl rfl
end
set_option maxRecDepth 100000
section
open Go.RowKit Go.Lib
theorem sT {t u v : Nat} {r s q : OV} (ht : tm t = some r) (hu : tm u = some s) (hv : tm v = some q) (hR : R (.tu [r, s, q]) σ) : DoneN E [.tmp t, .tmp u, .tmp v] R .ret tm σ :=
 ⟨_, ⟨_, _, rfl, ht, _, _, rfl, hu, _, _, rfl, hv, rfl⟩, hR⟩
theorem index_p (s : Bt) (c : UInt8) : Pure E.P 137 [.bs s, .bs [c]] (.int .i64 (indexByte s c)) := gE ⟨_, Tryz.func137, by decide, rfl⟩ rfl fun G w vs hr hm => by
 rw [RepOL] at hr
 obtain ⟨v, us, rfl, r0, hr⟩ := hr
 rw [RepOL] at hr
 obtain ⟨v2, us, rfl, r2, hr⟩ := hr
 rw [RepOL] at hr
 subst hr
 rw [vA r0, vA r2]
 have := Tryz.stringslite_Index_one ⟨s.toArray⟩ c w
 refine this.mono fun e w' ⟨h1, h2⟩ => ⟨h1, ?_⟩
 subst h2
 exact Below.refl _ _
theorem iV {c : UInt8} : ∀ {s : Bt}, indexByte s c < 0 → cutC c s = (s, [], false) ∧ indexByte s c = -1
 | [], _ => ⟨rfl, rfl⟩
 | x :: l, h => by
  unfold indexByte at h ⊢
  by_cases hx : x = c
  ·rw [if_pos (by simp [hx])] at h; omega
  ·rw [if_neg (by simp [hx])] at h ⊢
   by_cases hn : indexByte l c = -1
   ·rw [if_pos (by simp [hn])]
    have := (iV (c := c) (s := l) (by omega)).1
    exact ⟨by rw [cutC, if_neg hx, this], rfl⟩
   ·rw [if_neg (by simp [hn])] at h
    exact absurd (iV (c := c) (s := l) (by omega)).2 hn
theorem pR {c : UInt8} : ∀ {s : Bt}, 0 ≤ indexByte s c → indexByte s c < s.length ∧ cutC c s = (s.take (indexByte s c).toNat, s.drop ((indexByte s c).toNat + 1), true)
 | [], h => by simp [indexByte] at h
 | x :: l, h => by
  unfold indexByte at h ⊢
  by_cases hx : x = c
  ·rw [if_pos (by simp [hx])]
   refine ⟨by simp, ?_⟩
   rw [cutC, if_pos hx]; rfl
  ·rw [if_neg (by simp [hx])] at h ⊢
   by_cases hn : indexByte l c = -1
   ·rw [if_pos (by simp [hn])] at h; omega
   ·rw [if_neg (by simp [hn])] at h ⊢
    have h0 : 0 ≤ indexByte l c := by
     by_cases hh : indexByte l c < 0
     ·exact absurd (iV hh).2 hn
     ·omega
    obtain ⟨g1, g2⟩ := pR (c := c) (s := l) h0
    refine ⟨by simp only [List.length_cons]; omega, ?_⟩
    have e : (indexByte l c + 1).toNat = (indexByte l c).toNat + 1 := by omega
    rw [cutC, if_neg hx, g2, e]; rfl
set_option maxHeartbeats 4000000 in
theorem slcut_p (s : Bt) (c : UInt8) (hl : s.length ≤ 1152921504606846976) : Pure E.P 78 [.bs s, .bs [c]] (.tu [.bs (cutC c s).1, .bs (cutC c s).2.1, .bool (cutC c s).2.2]) := by
 have c1 := index_p s c
 refine FnW.toR ?_
 refine xL (vs := [.tmp 4, .tmp 5, .tmp 6]) Tryz.func78 (by decide) rfl Tryz.ntmps78 (Nat.le_of_ble_eq_true rfl) rfl ?_
 by_cases h : indexByte s c < 0
 ·rw [(iV h).1]
  refine rZ ?_; refine aoR fun _ => ?_
  refine rZ ?_; refine aoR fun _ => ?_
  refine rZ ?_
  apply uE; exact rfl; exact .fn _ _ _; exact rfl; exact c1
  refine rZ ?_; refine aoR fun _ => ?_
  refine rZ ?_; refine cnd ?_ ?_
  refine uF fun _ => ?_; try omega
  refine uG fun _ => ?_; try omega
  refine rZ ?_; refine aoR fun _ => ?_
  refine rZ ?_; rotate_left
  all_goals exact sT rfl rfl rfl rfl
 ·obtain ⟨g1, g2⟩ := pR (c := c) (s := s) (by omega)
  have hc1 : (([c] : Bt).length : Int) = 1 := rfl
  rw [g2]
  refine rZ ?_; refine aoR fun _ => ?_
  refine rZ ?_; refine aoR fun _ => ?_
  refine rZ ?_
  apply uE; exact rfl; exact .fn _ _ _; exact rfl; exact c1
  refine rZ ?_; refine aoR fun _ => ?_
  refine rZ ?_; refine cnd ?_ ?_
  refine uF fun _ => ?_; try omega
  refine rZ ?_
  refine uJ (E := E) ?_ (fun _ => ?_); exact rfl
  refine rZ ?_
  (apply gB; exact rfl; exact rfl; exact rfl; exact rfl; (exact ⟨_, _, rfl, by omega, rfl⟩); omega; omega)
  refine rZ ?_
  apply qY; exact rfl; exact rfl; exact rfl
  refine rZ ?_
  (apply gB; exact rfl; exact rfl; exact rfl; (exact ⟨_, _, rfl, by omega, rfl⟩); exact rfl; omega; omega)
  refine rZ ?_; rotate_left
  refine uG fun _ => ?_; try omega
  have e1 : (indexByte s c + 1).toNat = (indexByte s c).toNat + 1 := by omega
  refine sT rfl rfl rfl ?_
  simp [e1]
  exact List.take_of_length_le (by simp)
set_option maxHeartbeats 4000000 in
theorem uAY (s : Bt) (c : UInt8) (hl : s.length ≤ 1152921504606846976) : Pure E.P 37 [.bs s, .bs [c]] (.tu [.bs (cutC c s).1, .bs (cutC c s).2.1, .bool (cutC c s).2.2]) := by
 have c1 := slcut_p s c hl
 refine FnW.toR ?_
 refine xL (vs := [.tmp 4, .tmp 5, .tmp 6]) Tryz.func37 (by decide) rfl Tryz.ntmps37 (Nat.le_of_ble_eq_true rfl) rfl ?_
 refine rZ ?_; refine aoR fun _ => ?_
 refine rZ ?_; refine aoR fun _ => ?_
 refine rZ ?_
 apply uE; exact rfl; exact .fn _ _ _; exact rfl; exact c1
 refine rZ ?_; rotate_left
 all_goals exact sT rfl rfl rfl rfl
end
structure Over where
 n : Nat
 os : Array Obj
 deriving Inhabited
def over (w : World) (p : Over) : World := { w with drawn := p.n, heap := w.heap ++ p.os }
structure Sl where
 a : Option Addr
 n : Nat
 c : Nat
 deriving Inhabited
variable {s : Sl}
def Sl.v (s : Sl) : Value := .slice s.a s.n s.c
structure Ev where
 hart : Int
 kind : Int
 addr : Int
 val : Int
 rval : Int
 aq : Bool
 rl : Bool
 pred : Int
 succ : Int
 rsv : Bool
 av : Sl
 dv : Sl
 cv : Sl
 addrs : List Int
 datas : List Int
 ctrls : List Int
 deriving Inhabited
variable {e : Ev} {es : List Ev}
def Ev.cells (e : Ev) : List Value := [.int .i64 e.hart, .int .i64 e.kind, .int .u32 e.addr, .int .u32 e.val, .int .u32 e.rval, .bool e.aq, .bool e.rl, .int .i64 e.pred, .int .i64 e.succ, .bool e.rsv, .slice e.av.a e.av.n e.av.c, .slice e.dv.a e.dv.n e.dv.c, .slice e.cv.a e.cv.n e.cv.c]
def Ev.agg (e : Ev) : Value := .agg #[.int .i64 e.hart, .int .i64 e.kind, .int .u32 e.addr, .int .u32 e.val, .int .u32 e.rval, .bool e.aq, .bool e.rl, .int .i64 e.pred, .int .i64 e.succ, .bool e.rsv, .slice e.av.a e.av.n e.av.c, .slice e.dv.a e.dv.n e.dv.c, .slice e.cv.a e.cv.n e.cv.c]
def Ev.small (e : Ev) : Prop := e.av.n ≤ 1152921504606846976 ∧ e.dv.n ≤ 1152921504606846976 ∧ e.cv.n ≤ 1152921504606846976
def IntsIn (q : IntKind) (B : Nat) (w : World) (s : Sl) (xs : List Int) : Prop :=
 s.n = xs.length ∧ xs.length ≤ 1152921504606846976 ∧
 (xs = [] ∨ ∃ b off, s.a = some ⟨b, off, none⟩ ∧ b < B ∧ ∀ k, k < xs.length → w.cell? ⟨b, off + k, none⟩ = some (.int q (xs.getD k 0)))
theorem IntsIn.below (h : IntsIn q B w s xs) (hb : Below B w w') : IntsIn q B w' s xs := by
 obtain ⟨h1, h2, h3⟩ := h
 refine ⟨h1, h2, ?_⟩
 rcases h3 with h3 | ⟨b, off, h4, h5, h6⟩
 ·exact Or.inl h3
 ·exact Or.inr ⟨b, off, h4, h5, fun k hk => by rw [hb.cell (by exact h5)]; exact h6 k hk⟩
theorem IntsIn.mono {B' : Nat} (h : IntsIn q B w s xs) (hB : B ≤ B') : IntsIn q B' w s xs := by
 obtain ⟨h1, h2, h3⟩ := h
 refine ⟨h1, h2, ?_⟩
 rcases h3 with h3 | ⟨b, off, h4, h5, h6⟩
 ·exact Or.inl h3
 ·exact Or.inr ⟨b, off, h4, by omega, h6⟩
def Ev.wf (e : Ev) : Prop := (-9223372036854775808 ≤ e.hart ∧ e.hart ≤ 9223372036854775807) ∧ (-9223372036854775808 ≤ e.kind ∧ e.kind ≤ 9223372036854775807) ∧ (0 ≤ e.addr ∧ e.addr < 4294967296) ∧ (0 ≤ e.val ∧ e.val < 4294967296) ∧
 (0 ≤ e.rval ∧ e.rval < 4294967296) ∧ (-9223372036854775808 ≤ e.pred ∧ e.pred ≤ 9223372036854775807) ∧ (-9223372036854775808 ≤ e.succ ∧ e.succ ≤ 9223372036854775807)
def Ev.okIn (B : Nat) (w : World) (e : Ev) : Prop :=
 IntsIn .i64 B w e.av e.addrs ∧ IntsIn .i64 B w e.dv e.datas ∧ IntsIn .i64 B w e.cv e.ctrls ∧ e.wf
theorem Ev.okIn.below (h : e.okIn B w) (hb : Below B w w') : e.okIn B w' := ⟨h.1.below hb, h.2.1.below hb, h.2.2.1.below hb, h.2.2.2⟩
theorem Ev.okIn.small (h : e.okIn B w) : e.small := by
 obtain ⟨⟨a1, a2, _⟩, ⟨b1, b2, _⟩, ⟨c1, c2, _⟩, _⟩ := h
 exact ⟨by omega, by omega, by omega⟩
def EvCells (w : World) (b o : Nat) (e : Ev) : Prop := w.cell? ⟨b, o, none⟩ = some (Value.int IntKind.i64 e.hart) ∧ w.cell? ⟨b, o + 1, none⟩ = some (Value.int IntKind.i64 e.kind) ∧ w.cell? ⟨b, o + 2, none⟩ = some (Value.int IntKind.u32 e.addr) ∧ w.cell? ⟨b, o + 3, none⟩ = some (Value.int IntKind.u32 e.val) ∧ w.cell? ⟨b, o + 4, none⟩ = some (Value.int IntKind.u32 e.rval) ∧ w.cell? ⟨b, o + 5, none⟩ = some (Value.bool e.aq) ∧ w.cell? ⟨b, o + 6, none⟩ = some (Value.bool e.rl) ∧ w.cell? ⟨b, o + 7, none⟩ = some (Value.int IntKind.i64 e.pred) ∧ w.cell? ⟨b, o + 8, none⟩ = some (Value.int IntKind.i64 e.succ) ∧ w.cell? ⟨b, o + 9, none⟩ = some (Value.bool e.rsv) ∧ w.cell? ⟨b, o + 10, none⟩ = some (Value.slice e.av.a e.av.n e.av.c) ∧ w.cell? ⟨b, o + 11, none⟩ = some (Value.slice e.dv.a e.dv.n e.dv.c) ∧ w.cell? ⟨b, o + 12, none⟩ = some (Value.slice e.cv.a e.cv.n e.cv.c)
def EvsIn (B : Nat) (w : World) (s : Sl) (es : List Ev) : Prop :=
 s.n = es.length ∧ es.length ≤ 1152921504606846976 ∧ (∀ e ∈ es, e.okIn B w) ∧
 (es = [] ∨ ∃ b off, s.a = some ⟨b, off, none⟩ ∧ b < B ∧ ∀ k, k < es.length → EvCells w b (off + k * 13) (es.getD k default))
theorem EvCells.below {o : Nat} (h : EvCells w b o e) (hb : Below B w w') (hB : b < B) : EvCells w' b o e := by
 unfold EvCells at *
 simp only [show ∀ j, w'.cell? ⟨b, j, none⟩ = w.cell? ⟨b, j, none⟩ from fun j => hb.cell (p := ⟨b, j, none⟩) hB]
 exact h
theorem EvsIn.below (h : EvsIn B w s es) (hb : Below B w w') : EvsIn B w' s es := by
 obtain ⟨h1, h2, h3, h4⟩ := h
 refine ⟨h1, h2, fun e he => (h3 e he).below hb, ?_⟩
 rcases h4 with h4 | ⟨b, off, h4, h5, h6⟩
 ·exact Or.inl h4
 ·exact Or.inr ⟨b, off, h4, h5, fun k hk => (h6 k hk).below hb h5⟩
theorem EvsIn.mono {B' : Nat} (h : EvsIn B w s es) (hB : B ≤ B') : EvsIn B' w s es := by
 obtain ⟨h1, h2, h3, h4⟩ := h
 refine ⟨h1, h2, fun e he => ⟨(h3 e he).1.mono hB, (h3 e he).2.1.mono hB, (h3 e he).2.2.1.mono hB, (h3 e he).2.2.2⟩, ?_⟩
 rcases h4 with h4 | ⟨b, off, h4, h5, h6⟩
 ·exact Or.inl h4
 ·exact Or.inr ⟨b, off, h4, by omega, h6⟩
def RowsIn (B : Nat) (w : World) (s : Sl) (rows : List (Sl × List Int)) : Prop :=
 s.n = rows.length ∧ rows.length ≤ 1152921504606846976 ∧ (∀ r ∈ rows, IntsIn .i64 B w r.1 r.2) ∧
 (rows = [] ∨ ∃ b off, s.a = some ⟨b, off, none⟩ ∧ b < B ∧ ∀ k, k < rows.length → w.cell? ⟨b, off + k, none⟩ = some (rows.getD k default).1.v)
theorem RowsIn.below {rows : List (Sl × List Int)} (h : RowsIn B w s rows) (hb : Below B w w') : RowsIn B w' s rows := by
 obtain ⟨h1, h2, h3, h4⟩ := h
 refine ⟨h1, h2, fun e he => (h3 e he).below hb, ?_⟩
 rcases h4 with h4 | ⟨b, off, h4, h5, h6⟩
 ·exact Or.inl h4
 ·exact Or.inr ⟨b, off, h4, h5, fun k hk => by rw [hb.cell (by exact h5)]; exact h6 k hk⟩
structure Ex where
 es : Sl
 fs : Sl
 os : Sl
 evs : List Ev
 from_ : List Int
 order : List (Sl × List Int)
 deriving Inhabited
def Ex.agg (x : Ex) : Value := .agg #[.slice x.es.a x.es.n x.es.c, .slice x.fs.a x.fs.n x.fs.c, .slice x.os.a x.os.n x.os.c]
def Ex.inW (B : Nat) (w : World) (x : Ex) : Prop := EvsIn B w x.es x.evs ∧ IntsIn .i64 B w x.fs x.from_ ∧ RowsIn B w x.os x.order
theorem Ex.inW.below {x : Ex} (h : x.inW B w) (hb : Below B w w') : x.inW B w' := ⟨h.1.below hb, h.2.1.below hb, h.2.2.below hb⟩
def PairsZ (B : Nat) (w : World) (s : Sl) (l : List (Int × Int)) : Prop :=
 s.n = l.length ∧ l.length ≤ 1152921504606846976 ∧
 (l = [] ∨ ∃ b off, s.a = some ⟨b, off, none⟩ ∧ b < B ∧ ∀ k, k < l.length → w.cell? ⟨b, off + k * 2, none⟩ = some (.int .i64 (l.getD k (0, 0)).1) ∧ w.cell? ⟨b, off + k * 2 + 1, none⟩ = some (.int .i64 (l.getD k (0, 0)).2))
theorem PairsZ.below (h : PairsZ B w s l) (hb : Below B w w') : PairsZ B w' s l := by
 obtain ⟨h1, h2, h3⟩ := h
 refine ⟨h1, h2, ?_⟩
 rcases h3 with h3 | ⟨b, off, h4, h5, h6⟩
 ·exact Or.inl h3
 ·exact Or.inr ⟨b, off, h4, h5, fun k hk => by rw [hb.cell (by exact h5), hb.cell (by exact h5)]; exact h6 k hk⟩
theorem PairsZ.mono {B' : Nat} (h : PairsZ B w s l) (hB : B ≤ B') : PairsZ B' w s l := by
 obtain ⟨h1, h2, h3⟩ := h
 refine ⟨h1, h2, ?_⟩
 rcases h3 with h3 | ⟨b, off, h4, h5, h6⟩
 ·exact Or.inl h3
 ·exact Or.inr ⟨b, off, h4, by omega, h6⟩
section
open Go.RowKit Go.ChangeShapes Go.WideShapes Go.Deep
theorem below_sameAt {n : Nat} {W W' : World} {q : MemPlace} (h : Below n W W') (hq : q.block < n) : W.sameAt W' q := by
 cases q with
 | cell b o => exact World.cell?_of_block (w := W) (h.block b hq)
 | map b => exact h.block b hq
theorem gC {H : Type} {enc : TypeId × Value → H} {W W' : World} (hl : laidOutB Tryz.prog = true) (hb : Below W.heap.size W W') :
  ∀ {ts : List TypeId} {vs : List Value} {ds : List (DataW H)} {p : List MemPlace}, (∀ t ∈ ts, Tryz.prog.readableRec t = true ∧ t < Tryz.prog.types.size) → DataW.TrodAll enc Tryz.prog W 0 (fun _ => true) true ts vs ds p → (∀ q ∈ p, q.block < W.heap.size) →
   ∀ sp : Nat → Bool, (∀ q ∈ p, sp q.block = true) → DataW.TrodAll enc Tryz.prog W' 0 sp true ts vs ds p
 | [], vs, ds, p, _, h, _, sp, _ => by
  obtain ⟨rfl, rfl, rfl⟩ := trodAll_nil h
  exact trodAll_mk0
 | t :: ts, vs, ds, p, ht, h, hlt, sp, hsp => by
  obtain ⟨v, vs', d, ds', p0, p1, rfl, rfl, rfl, h0, r0⟩ := trodAll_cons h
  have h1 := WideElems.Trod_stays hl (ht t (by simp)).1 (ht t (by simp)).2 (W' := W') (sp' := sp) h0 (fun q hq => below_sameAt hb (hlt q (by simp [hq]))) (fun q hq => hsp q (by simp [hq]))
  exact trodAll_cons_mk h1 (gC hl hb (fun t' ht' => ht t' (by simp [ht'])) r0 (fun q hq => hlt q (by simp [hq])) sp (fun q hq => hsp q (by simp [hq])))
theorem rW : laidOutB Tryz.prog = true := by kernel_rfl
theorem uAP {H : Type} {ts : List TypeId} {ds : List (DataW H)} (h : (DataW.weightsEach P ts ds).all (· ≤ reachBytes) = true) {j : Nat} {t : TypeId} {d : DataW H} (ht : ts[j]? = some t) (hd : ds[j]? = some d) : ∀ n ∈ d.weights P t, n ≤ reachBytes := by
 intro n hn
 have := List.all_eq_true.1 h n (DataW.weights_mem_each ht hd n hn)
 simpa using this
section
variable {H : Type} {enc : TypeId × Value → H} {W : World} {sp : Nat → Bool} {held : Bool}
end
end
section
open Go.RowKit Go.ChangeShapes Go.WideShapes Go.Deep
section
variable {H : Type} {enc : TypeId × Value → H} {W : World} {sp : Nat → Bool} {held : Bool}
end
end
set_option maxRecDepth 100000
def allM (w : World) : Mem := fun b o => w.cell? ⟨b, o, none⟩
def allG (w : World) (kn : KN (allM w)) : Gh := ⟨allM w, fun _ _ => none, kn⟩
theorem WRel.all (w : World) (kn : KN (allM w)) (N : Nat) : WRel ⟨w, fun _ => False, allG w kn, N⟩ (allG w kn) Store.nil w where
 mem _ _ _ h := h
 own k τ r hk := by cases hk
 inj k k' τ τ' β β' r r' hk := by cases hk
 keep _ _ _ := rfl
 size := Nat.le_refl _
 tape := rfl
 os := rfl
 output := rfl
 g0 := .refl _
 new _ _ _ h := Or.inl h
 bound := ⟨0, fun _ _ _ _ => rfl⟩
 low _ _ _ _ := rfl
theorem rep_c2 {v : Value} (h : v.oneCell' = true) : Rep M (.c v) v := by rw [Rep]; exact ⟨rfl, h⟩
theorem IntsIn.rep {l : List Int} (h : IntsIn q B w s l) (hc : s.n ≤ s.c) : Rep (allM w) (.sl 1 (l.map fun n => [TV.c (.int q n)])) (.slice s.a s.n s.c) := by
 obtain ⟨h1, h2, h3⟩ := h
 rw [Rep]
 refine ⟨s.a, s.c, by simp [h1], by simpa [h1] using hc, ?_⟩
 rcases h3 with rfl | ⟨b, off, h4, h5, h6⟩
 ·exact Or.inl rfl
 ·refine Or.inr ⟨b, off, h4, RepR.of_get fun i r hi => ?_⟩
  rw [List.getElem?_map] at hi
  obtain ⟨n, hn, rfl⟩ := Option.map_eq_some_iff.1 hi
  obtain ⟨hlt, rfl⟩ := List.getElem?_eq_some_iff.1 hn
  refine ⟨rfl, RepC.of_get fun o t ht => ?_⟩
  cases o with
  | succ o => simp at ht
  | zero =>
   simp at ht
   subst ht
   have := h6 i hlt
   rw [List.getD_eq_getElem?_getD, List.getElem?_eq_getElem hlt] at this
   exact ⟨_, by simpa [allM] using this, rep_c2 rfl⟩
section
open Go.RowKit Go.ChangeShapes Go.WideShapes Go.Deep
def Ev.ok (e : Ev) : Prop := e.wf ∧ e.addrs.length ≤ 1152921504606846976 ∧ e.datas.length ≤ 1152921504606846976 ∧ e.ctrls.length ≤ 1152921504606846976 ∧ e.av.n = e.addrs.length ∧ e.dv.n = e.datas.length ∧ e.cv.n = e.ctrls.length
def Ex.ok (x : Ex) : Prop := x.evs.length ≤ 1152921504606846976 ∧ (∀ e ∈ x.evs, e.ok) ∧ x.from_.length ≤ 1152921504606846976 ∧ x.order.length ≤ 1152921504606846976 ∧ ∀ r ∈ x.order, r.2.length ≤ 1152921504606846976
section
variable {H : Type} {enc : TypeId × Value → H} {W : World} {sp : Nat → Bool} {held : Bool}
end
end
set_option maxHeartbeats 4000000
set_option maxRecDepth 100000
theorem take_get' (l : List α) (d : α) (k : Nat) (h : k < l.length) : l.take (k + 1) = l.take k ++ [l.getD k d] := by
 rw [List.take_succ_eq_append_getElem h, List.getD_eq_getElem?_getD, List.getElem?_eq_getElem h]; rfl
set_option maxRecDepth 100000
section
attribute [local semireducible] NextOk
section
variable {E : Env} {V J : Nat} {ty : TypeId} {pos : String} {af : Array Edge} {gd : Option (Nat × Bool)} {tm : Tm} {σ : Store}
end
structure RenOf (d : Nat) : Prop where
 on : True
variable {E : Env} {v j : Nat} {ops : Array Oper} {K : Tm → Store → Prop} {KD : List Foot → Tm → Store → Prop} {acc : List Foot} {rest : List Oper} {tm : Tm} {σ : Store} {ty : TypeId} {pos : String} {af : Array Edge} {gd : Option (Nat × Bool)}
end
set_option maxRecDepth 100000
section
open Go.RowKit Go.Lib
def stO (s : Stp) : List OV := (stTV s).map .d
def stsTV (l : List Stp) : TV := .sl 10 (l.map stTV)
theorem info_st : (Tryz.prog.info? 47).map (fun i => (i.zero, i.size, i.bytes)) = some (some (Value.agg #[.int .i64 0, .int .i64 0, .int .i64 0, .int .u32 0, .int .i64 0, .int .i64 0, .bool false, .bool false, .int .i64 0, .int .i64 0]), 10, 72) := by kernel_rfl
set_option maxHeartbeats 2000000 in
theorem grow_zeroT (w : World) : Calls Tryz.prog 143 #[.slice none 0 0, .int .i64 0] w fun e w' => e = .returned (.slice none 0 0) ∧ w' = w := by
 go_enter Tryz.func143, Tryz.ntmps143
 go_wp2
 go_ret
 exact ⟨rfl, rfl⟩
set_option maxHeartbeats 2000000 in
theorem grow_moreT (n : Nat) (h0 : 0 < n) (hn : n ≤ 65536) (w : World) : Calls Tryz.prog 143 #[.slice none 0 0, .int .i64 n] w fun e w' =>
  ∃ cs : Array Value, cs.size = grownCap w n 0 47 * 10 ∧ e = .returned (.slice (some ⟨w.heap.size, 0, none⟩) 0 (grownCap w n 0 47)) ∧ w' = w.drew.alloc (.cells cs 47) := by
 obtain ⟨i0, hi, jz0, jz1, jz2⟩ := info_parts info_st
 have h1 : ¬ ((n : Int) < 0) := by omega
 have h2 : RowKit.wrap64 ((0 : Int) - (0 : Int)) = 0 := by unfold RowKit.wrap64; omega
 have h3 : RowKit.wrap64 ((n : Int) - (0 : Int)) = (n : Int) := by unfold RowKit.wrap64; omega
 have h4 : (n : Int) > 0 := by omega
 have hGn : n ≤ grownCap w n 0 47 := grownCap_ge w _ _ _
 have hrz : ∀ ty, (Builtin.append_ #[49, 3] ty #[.slice none 0 0, .int .i64 (n : Int)]).run Tryz.prog w =
   .ok (.slice (some ⟨w.heap.size, 0, none⟩) n (grownCap w n 0 47)) (w.drew.alloc (.cells ((#[] : Array Value) ++ Builtin.zeroCells (Value.agg #[.int .i64 0, .int .i64 0, .int .i64 0, .int .u32 0, .int .i64 0, .int .i64 0, .bool false, .bool false, .int .i64 0, .int .i64 0]).cells n ++ Builtin.zeroCells (Value.agg #[.int .i64 0, .int .i64 0, .int .i64 0, .int .u32 0, .int .i64 0, .int .i64 0, .bool false, .bool false, .int .i64 0, .int .i64 0]).cells (grownCap w n 0 47 - n)) 47)) := fun ty => by
  have h := Lib.run_append_grow_zeros w 49 3 ty 47 i0 _ .i64 .i64 Tryz.underlying49 Tryz.underlying3 hi jz0 none 0 0 [] (run_firstCells_none w.drew i0.size 0 0 0) n h0 (by omega) (by omega) (by omega) (by rw [jz2]; omega) (growslice_fits (by omega) (by rw [jz2]; omega))
  simpa using h
 have hcs : ((#[] : Array Value) ++ Builtin.zeroCells (Value.agg #[.int .i64 0, .int .i64 0, .int .i64 0, .int .u32 0, .int .i64 0, .int .i64 0, .bool false, .bool false, .int .i64 0, .int .i64 0]).cells n ++ Builtin.zeroCells (Value.agg #[.int .i64 0, .int .i64 0, .int .i64 0, .int .u32 0, .int .i64 0, .int .i64 0, .bool false, .bool false, .int .i64 0, .int .i64 0]).cells (grownCap w n 0 47 - n)).size = grownCap w n 0 47 * 10 := by
  simp only [Array.size_append, List.size_toArray, List.length_nil, size_zeroCells, Value.cells, List.length_cons]
  omega
 obtain ⟨CS, hCS⟩ : ∃ CS, ((#[] : Array Value) ++ Builtin.zeroCells (Value.agg #[.int .i64 0, .int .i64 0, .int .i64 0, .int .u32 0, .int .i64 0, .int .i64 0, .bool false, .bool false, .int .i64 0, .int .i64 0]).cells n ++ Builtin.zeroCells (Value.agg #[.int .i64 0, .int .i64 0, .int .i64 0, .int .u32 0, .int .i64 0, .int .i64 0, .bool false, .bool false, .int .i64 0, .int .i64 0]).cells (grownCap w n 0 47 - n)) = CS := ⟨_, rfl⟩
 rw [hCS] at hcs
 simp only [hCS] at hrz
 obtain ⟨Gc, hG⟩ : ∃ Gc, grownCap w n 0 47 = Gc := ⟨_, rfl⟩
 rw [hG] at hcs hGn ⊢
 simp only [hG] at hrz
 have hG63 : Gc ≤ 9223372036854775807 := by
  have := grownCap_le_maxLen w n 0 47 (by unfold maxLen; omega)
  rw [hG] at this
  unfold maxLen at this
  omega
 clear hCS hG
 go_enter Tryz.func143, Tryz.ntmps143
 go_wp2_with (at_builtin; refine Lib.wpList_append_run _ rfl _ _ _ _ rfl _ _ rfl rfl _ _ (hrz _) ?_)
 all_goals (go_ret; exact ⟨CS, hcs, rfl, rfl⟩)
theorem rX (n : Nat) (hn : n ≤ 65536) : Own E.P 143 [.d (.c (.slice none 0 0)), .int .i64 n] 10 [] := by
 refine ⟨⟨_, Tryz.func143, by decide, rfl⟩, fun G w vs N hv hw => ?_⟩
 rw [RepOL] at hv
 obtain ⟨x1, us, rfl, h1, hv⟩ := hv
 rw [RepOL] at hv
 obtain ⟨x2, us, rfl, h2, hv⟩ := hv
 rw [RepOL] at hv
 subst hv
 have e1 := vA h1
 have e2 := vA h2
 subst e1 e2
 obtain ⟨v, hv, hf⟩ := hw.free
 rcases Nat.eq_zero_or_pos n with h0 | h0
 ·subst h0
  refine (grow_zeroT w).mono ?_
  rintro e w' ⟨rfl, rfl⟩
  exact ⟨_, _, .os 0 (v, 0) 10 0, _, rfl, ⟨0, (v, 0), rfl, Store.put_self _ _ _⟩, Gh.name_le G none (hf 0 0), by rw [RepO]; exact Or.inr ⟨Gh.name_self _ _ _ _, rfl, rfl⟩, hw.phantom 0 hv (hf 0 0) 10⟩
 ·refine (grow_moreT n h0 hn w).mono ?_
  rintro e w' ⟨cs, hcs, rfl, rfl⟩
  have hc := grownCap_le_maxLen w n 0 47 (by unfold maxLen; omega)
  have hw2 := (hw.drawn (w.drawn + 1)).alloc 0 hv (hf 0 0) cs 47 ⟨10, []⟩ (by simp) (fun i row hi => by simp at hi)
  exact ⟨_, _, .os 0 (v, 0) 10 0, _, rfl, ⟨0, (v, 0), rfl, Store.put_self _ _ _⟩, Gh.name_le G _ (hf 0 0), by rw [RepO]; exact Or.inl ⟨_, _, Gh.name_self _ _ _ _, rfl, Nat.zero_le _, hcs, hc⟩, hw2⟩
theorem kB (ls : List (List Stp)) (k : Nat) (h : k < ls.length) : (ls.take (k + 1)).flatten = (ls.take k).flatten ++ ls.getD k default := by
 rw [take_get' ls default k h, List.flatten_append]; simp
theorem fN (ls : List (List Stp)) (k : Nat) : ((ls.take k).flatten).length ≤ ls.flatten.length := by
 have h : ls = ls.take k ++ ls.drop k := (List.take_append_drop k ls).symm
 have := congrArg (fun l : List (List Stp) => l.flatten.length) h
 simp only [List.flatten_append, List.length_append] at this
 omega
def catRowT (l : List Stp) : List TV := [stsTV l]
set_option maxHeartbeats 4000000 in
theorem concat_oT (ls : List (List Stp)) (hl : ls.flatten.length ≤ 65536) (hn : ls.length ≤ 64) : Own E.P 92 [.d (.sl 1 (ls.map catRowT))] 10 (ls.flatten.map stO) := by
 have hG := fun n hn => rX n hn
 refine fnA Tryz.func92 Tryz.ntmps92 ?_
 refine rZ ?_; refine aoR fun _ => ?_
 refine rZ ?_; refine aoR fun _ => ?_
 refine rZ ?_; refine aoR fun _ => ?_
 refine rZ ?_; rotate_left
 refine vB (X := Nat) (fun k => tmL [(0, .d (.sl 1 (ls.map catRowT))), (3, .int .i64 ((ls.take k).flatten).length), (9, .d (.sl 1 (ls.map catRowT))), (10, .int .i64 ls.length), (11, .int .i64 k)]) (fun _ => stL []) (fun k => k ≤ ls.length) (fun k => ls.length - k) 0 (Nat.zero_le _) (by repeat' (first | exact vW _ | exact uS _ | refine uL rfl ?_ | refine uY rfl ?_ | (refine vP rfl ?_ ?_; (simp)) | (refine uO rfl ?_ ?_; (simp)) | (refine uP rfl ?_ ?_; (simp)))) leP ?_
 intro k hk
 have hfl := fN ls k
 by_cases hlt : k < ls.length
 ·have hfl1 := fN ls (k + 1)
  have hft := congrArg List.length (kB ls k hlt)
  rw [List.length_append] at hft
  have hA : ((ls.take k).flatten).length + (ls.getD (k : Int).toNat default).length ≤ 65536 := by rw [Int.toNat_natCast]; omega
  refine rZ ?_; refine aoR fun _ => ?_
  refine rZ ?_; refine cnd ?_ ?_
  refine uF fun _ => ?_; try omega
  refine rZ ?_; refine aoR fun _ => ?_
  refine rZ ?_; refine aoR fun _ => ?_
  refine rZ ?_; refine aoR fun _ => ?_
  refine rZ ?_; refine cnd ?_ ?_
  refine uF fun _ => ?_; try omega
  refine uG fun _ => ?_; try omega
  refine rZ ?_; refine aoR fun _ => ?_
  refine rZ ?_; rotate_left
  refine uG fun _ => ?_; try omega
  refine uU (k + 1) (by omega) (by omega) ?_ leP
  refine uL rfl (uL ?_ (uL rfl (uL rfl (uL rfl (vW _)))))
  show some (OV.int .i64 _) = some (OV.int .i64 _)
  rw [hft]; rfl
 ·have hkl : k = ls.length := by omega
  subst hkl
  rw [List.take_length]
  refine rZ ?_; refine aoR fun _ => ?_
  refine rZ ?_; refine cnd ?_ ?_
  refine uF fun _ => ?_; try omega
  refine uG fun _ => ?_; try omega
  refine rZ ?_; refine aoR fun _ => ?_
  refine rZ ?_
  apply uQ; apply uBB; exact rfl; exact .fn _ _ _; exact rfl; exact rX _ hl
  refine rZ ?_; refine aoR fun _ => ?_
  refine rZ ?_; rotate_left
  rename_i v24 _
  refine vB (X := Nat × Stamp) (fun p => tmL [(6, .os 6 p.2 10 ((ls.take p.1).flatten).length), (25, .d (.sl 1 (ls.map catRowT))), (26, .int .i64 ls.length), (27, .int .i64 p.1)]) (fun p => stL [(6, (p.2, ⟨10, ((ls.take p.1).flatten).map stO⟩))]) (fun p => p.1 ≤ ls.length) (fun p => ls.length - p.1) (0, (v24, 2)) (Nat.zero_le _) (by repeat' (first | exact vW _ | exact uS _ | refine uL rfl ?_ | refine uY rfl ?_ | (refine vP rfl ?_ ?_; (simp)) | (refine uO rfl ?_ ?_; (simp)) | (refine uP rfl ?_ ?_; (simp)))) (by repeat' (first | exact vW _ | exact uS _ | refine uL rfl ?_ | refine uY rfl ?_ | (refine vP rfl ?_ ?_; (simp)) | (refine uO rfl ?_ ?_; (simp)) | (refine uP rfl ?_ ?_; (simp)))) ?_
  rintro ⟨k, τ⟩ hk
  dsimp only at hk ⊢
  have hfl := fN ls k
  by_cases hlt : k < ls.length
  ·have hfl1 := fN ls (k + 1)
   have hft0 := kB ls k hlt
   have hft := congrArg List.length hft0
   rw [List.length_append] at hft
   have hA : ((ls.take k).flatten).length + (ls.getD (k : Int).toNat default).length ≤ 65536 := by rw [Int.toNat_natCast]; omega
   refine rZ ?_; refine aoR fun _ => ?_
   refine rZ ?_; refine cnd ?_ ?_
   refine uF fun _ => ?_; try omega
   refine rZ ?_; refine aoR fun _ => ?_
   refine rZ ?_; refine aoR fun _ => ?_
   refine rZ ?_; refine aoR fun _ => ?_
   refine rZ ?_; rotate_left
   refine uG fun _ => ?_; try omega
   rename_i v33 _
   refine uU (k + 1, (v33, 3)) (by dsimp only; omega) (by dsimp only; omega) ?_ ?_
   ·refine uL ?_ (uL rfl (uL rfl (uL rfl (vW _))))
    show some (OV.os 6 _ 10 _) = some (OV.os 6 _ 10 _)
    rw [hft, List.length_map, List.length_map, List.length_map]; rfl
   ·refine uY ?_ (uS _)
    show some (_, Row.mk 10 _) = some (_, Row.mk 10 _)
    rw [hft0, List.map_append, List.map_map]; rfl
  ·have hkl : k = ls.length := by omega
   subst hkl
   rw [List.take_length]
   refine rZ ?_; refine aoR fun _ => ?_
   refine rZ ?_; refine cnd ?_ ?_
   refine uF fun _ => ?_; try omega
   refine uG fun _ => ?_; try omega
   refine rZ ?_; refine aoR fun _ => ?_
   refine rZ ?_; rotate_left
   refine own_done (d := 2) rfl rfl rfl ?_
   first | exact (List.length_map ..).symm | exact List.length_map ..
end
set_option maxRecDepth 100000
set_option maxHeartbeats 1000000 in
theorem mS (n k : Int) (h0 : 0 ≤ n * k) (h1 : n * k ≤ 4611686018427387904) (τ : Stamp) : FnW E.P 115 [.int .i64 k, .lo 5 τ 1 0 0] (stL [(5, (τ, ⟨1, [[.int .i64 n]]⟩))]) (IsW (.tu []) (stL [(5, (τ, ⟨1, [[.int .i64 (capI (n * k))]]⟩))])) := by
 refine xD Tryz.func115 (by decide) rfl Tryz.ntmps115 (Nat.le_of_ble_eq_true rfl) rfl ?_
 refine aoR fun _ => ?_; refine rZ ?_
 rotate_left
 exact ⟨rfl, leP⟩
def oneO (n : Int) : OV := .int .i64 n
def manyO (m : List Int) : List OV := m.map oneO
def testOV (t : Ts) : OV := .ag [.d (.sl 1 (t.map catRowT))]
theorem lI (f : α → OV) (l : List α) (p : Nat) (a : α) (h : p < l.length) : setAt (l.map f) p [f a] = (l.set p a).map f := by
 unfold setAt
 rw [List.map_set, ← List.map_take, ← List.map_drop]
 simp only [List.length_cons, List.length_nil]
 rw [List.set_eq_take_append_cons_drop, if_pos (by simpa using h)]
 simp
def SOk (k : Nat) (p : List Int × Int) : Prop := p.1.length = 4 ∧ (∀ i, 0 ≤ p.1.getD i 0 ∧ p.1.getD i 0 ≤ k) ∧ 0 ≤ p.2 ∧ p.2 ≤ 10001
theorem qP {n : Int} (h : 0 ≤ n) : 0 ≤ capI n ∧ capI n ≤ 10001 := by unfold capI; split <;> omega
theorem iM {a b : Int} {k : Nat} (h0 : 0 ≤ a) (h1 : a ≤ 10001) (h2 : 0 ≤ b) (h3 : b ≤ k) (hk : k ≤ 100) : 0 ≤ a * b ∧ a * b ≤ 1000100 := by
 refine ⟨Int.mul_nonneg h0 h2, ?_⟩
 have := Int.mul_le_mul h1 (show b ≤ 100 by omega) h2 (by omega)
 omega
theorem SOk.step {k : Nat} {p : List Int × Int} (h : SOk k p) (s : Stp) (hk : k < 100) : SOk (k + 1) (sStep p s) := by
 obtain ⟨h1, h2, h3, h4⟩ := h
 unfold sStep
 cases s.sts with
 | false => exact ⟨h1, fun i => ⟨(h2 i).1, by have := (h2 i).2; show p.1.getD i 0 ≤ ((k + 1 : Nat) : Int); omega⟩, h3, h4⟩
 | true =>
  have hv := h2 s.var.toNat
  have := iM (k := k + 1) h3 h4 (show 0 ≤ p.1.getD s.var.toNat 0 + 1 by omega) (by omega) (by omega)
  refine ⟨by simp [h1], fun i => ?_, qP this.1⟩
  show 0 ≤ (p.1.set s.var.toNat (p.1.getD s.var.toNat 0 + 1)).getD i 0 ∧ (p.1.set s.var.toNat (p.1.getD s.var.toNat 0 + 1)).getD i 0 ≤ ((k + 1 : Nat) : Int)
  have hi := h2 i
  rw [List.getD_eq_getElem?_getD, List.getElem?_set]
  rw [List.getD_eq_getElem?_getD] at hi
  split
  ·split
   ·simp only [Option.getD_some]; omega
   ·simp only [Option.getD_none]; omega
  ·omega
theorem SOk.all : ∀ (l : List Stp) (k : Nat) (p : List Int × Int), SOk k p → k + l.length ≤ 100 → SOk (k + l.length) (l.foldl sStep p)
 | [], k, p, h, _ => h
 | s :: l, k, p, h, hk => by
  simp only [List.length_cons] at hk ⊢
  have := SOk.all l (k + 1) _ (h.step s (by omega)) (by omega)
  rwa [show k + 1 + l.length = k + (l.length + 1) by omega] at this
theorem st_fz (l : List Stp) : FzR (l.map stO) (l.map stTV) := by
 have : l.map stO = (l.map stTV).map (fun r => r.map .d) := by rw [List.map_map]; rfl
 rw [this]
 exact FzR.d _
theorem sS {s : Stp} (h : s.right = true) (ha : s.acc = true) : 0 ≤ s.var ∧ s.var ≤ 3 := by
 unfold Stp.right at h
 unfold Stp.acc at ha
 simp only [Bool.and_eq_true, decide_eq_true_eq] at ha
 split at h
 ·cases h
 ·split at h
  ·omega
  ·split at h
   ·cases h
   ·simp only [inR, Bool.and_eq_true, decide_eq_true_eq] at h
    omega
theorem setAt_self {l : List OV} {p : Nat} (hp : p < l.length) : (setAt l p [y])[p]? = some y := by
 have h1 : (l.take p).length = p := by rw [List.length_take]; omega
 unfold setAt
 rw [List.append_assoc, List.getElem?_append_right (by omega), h1, Nat.sub_self]
 rfl
theorem vT (l : List α) (d : α) (k : Nat) (h : k < l.length) : l.take (k + 1) = l.take k ++ [l.getD k d] := by
 rw [List.take_add_one, List.getElem?_eq_getElem h, List.getD_eq_getElem?_getD, List.getElem?_eq_getElem h]; rfl
theorem sts_acc {s : Stp} (h : s.sts = true) : s.acc = true := by
 unfold Stp.sts at h
 simp only [Bool.and_eq_true] at h
 exact h.1
theorem lds_acc {s : Stp} (h : s.lds = true) : s.acc = true := by
 unfold Stp.lds at h
 simp only [Bool.and_eq_true] at h
 exact h.1
theorem rF (h : true = false ∨ true = false) : False := by rcases h with h | h <;> cases h
set_option maxHeartbeats 4000000 in
theorem ways_p (t : Ts) (hr : ∀ s ∈ t.flatten, s.right = true) (hl : t.flatten.length ≤ 64) (hn : t.length ≤ 64) : Pure E.P 49 [testOV t] (.int .i64 (waysT t)) := by
 have f1 : Frozen 1 := ⟨trivial⟩
 have f13 : Frozen 13 := ⟨trivial⟩
 have c1 := concat_oT t (by omega) hn
 obtain ⟨all, hall⟩ : ∃ all, all = t.flatten := ⟨_, rfl⟩
 unfold waysT
 rw [← hall] at c1 hr hl ⊢
 refine fnA Tryz.func49 Tryz.ntmps49 ?_
 refine rZ ?_; refine aoR fun _ => ?_
 refine rZ ?_; refine aoR fun _ => ?_
 refine rZ ?_; refine aoR fun _ => ?_
 refine rZ ?_
 apply S_ownF; assumption; exact rfl; exact .fn _ _ _; exact rfl; exact c1; exact st_fz _; exact rfl
 refine rZ ?_; refine aoR fun _ => ?_
 refine rZ ?_; refine aoR fun _ => ?_
 refine rZ ?_; refine aoR fun _ => ?_
 refine rZ ?_; rotate_left
 rename_i v0 v1 v2 v3 v4 v5
 obtain ⟨B, hB⟩ : ∃ B, B = sAll all := ⟨_, rfl⟩
 have hS := fun i : Nat => SOk.all (all.take i) 0 ([0, 0, 0, 0], 1) ⟨rfl, fun i => by rcases i with _ | _ | _ | _ | i <;> simp, by decide, by decide⟩ (by simp; omega)
 refine vB (X := Nat) (fun i => tmL [(3, .lo 3 (v1, 0) 4 0 0), (4, .d (.sl 10 (all.map stTV))), (5, .lo 5 (v3, 0) 1 0 0), (6, .fn 115 [] [.lo 5 (v3, 0) 1 0 0]), (15, .d (.sl 10 (all.map stTV))), (16, .int .i64 all.length), (17, .int .i64 i)]) (fun i => stL [(3, ((v1, 0), ⟨4, [manyO (sAll (all.take i)).1]⟩)), (5, ((v3, 0), ⟨1, [[.int .i64 (sAll (all.take i)).2]]⟩))]) (fun i => i ≤ all.length) (fun i => all.length - i) 0 (Nat.zero_le _) (by repeat' (first | exact vW _ | exact uS _ | refine uL rfl ?_ | refine uY rfl ?_ | (refine vP rfl ?_ ?_; (simp)) | (refine uO rfl ?_ ?_; (simp)) | (refine uP rfl ?_ ?_; (simp)))) leP ?_
 intro i hi
 obtain ⟨h1, h2, h3, h4⟩ := hS i
 by_cases hlt : i < all.length
 ·have hx := hr (all.getD i default) (by rw [List.getD_eq_getElem?_getD, List.getElem?_eq_getElem hlt]; exact List.getElem_mem hlt)
  have hst := vT all default i hlt
  have hS1 := hS (i + 1)
  obtain ⟨s, hs⟩ : ∃ s, s = all.getD (i : Int).toNat default := ⟨_, rfl⟩
  have hs' : all.getD i default = s := by rw [hs, Int.toNat_natCast]
  have hb : s.sts = true → 0 ≤ s.var ∧ s.var ≤ 3 := fun h => sS (by rw [← hs']; exact hx) (sts_acc h)
  have c2 := jE s
  have hstep : sAll (all.take (i + 1)) = sStep (sAll (all.take i)) s := by
   rw [hst, hs']; unfold sAll; rw [List.foldl_append]; rfl
  obtain ⟨p, hp⟩ : ∃ p, p = sAll (all.take i) := ⟨_, rfl⟩
  change (sAll (all.take i)).1.length = 4 at h1
  change ∀ j, 0 ≤ (sAll (all.take i)).1.getD j 0 ∧ (sAll (all.take i)).1.getD j 0 ≤ ((0 + (all.take i).length : Nat) : Int) at h2
  change 0 ≤ (sAll (all.take i)).2 at h3
  change (sAll (all.take i)).2 ≤ 10001 at h4
  rw [← hp] at hstep h1 h2 h3 h4 ⊢
  have hti : (all.take i).length ≤ 64 := by rw [List.length_take]; omega
  cases hsts : s.sts with
  | false =>
   rw [hsts] at c2
   refine rZ ?_; refine aoR fun _ => ?_
   refine rZ ?_; refine cnd ?_ ?_
   refine uF fun _ => ?_; try omega
   refine rZ ?_; refine aoR fun _ => ?_
   refine rZ ?_; refine aoR fun _ => ?_
   refine rZ ?_
   apply uE; exact rfl; exact .fn _ _ _; exact rfl; rw [← hs]; exact c2
   refine rZ ?_; refine cnd ?_ ?_
   exact vN
   refine uV ?_; refine rZ ?_; refine aoR fun _ => ?_
   refine rZ ?_; rotate_left
   refine uG fun _ => ?_; try omega
   have e : sStep p s = p := by unfold sStep; rw [hsts]; rfl
   rw [e] at hstep
   refine uU (i + 1) (by omega) (by omega) leP ?_
   rw [hstep]
   exact leP
  | true =>
   rw [hsts] at c2
   obtain ⟨hb1, hb2⟩ := hb hsts
   have hv := h2 s.var.toNat
   have hm := iM (k := 100) h3 h4 (show 0 ≤ p.1.getD s.var.toNat 0 + 1 by omega) (by omega) (by omega)
   subst hs
   refine rZ ?_; refine aoR fun _ => ?_
   refine rZ ?_; refine cnd ?_ ?_
   refine uF fun _ => ?_; try omega
   refine rZ ?_; refine aoR fun _ => ?_
   refine rZ ?_; refine aoR fun _ => ?_
   refine rZ ?_
   apply uE; exact rfl; exact .fn _ _ _; exact rfl; exact c2
   refine rZ ?_; refine cnd ?_ ?_; refine uH ?_; refine rZ ?_; refine aoR fun _ => ?_
   refine rZ ?_
   apply wD; exact rfl; exact rfl; exact rfl; exact rfl; exact rfl; (rw [show te3.size = 1 from rfl, Nat.mul_one, Nat.zero_add]; exact uW (f := oneO) (by omega) 0)
   refine rZ ?_
   apply dQ; exact rfl; exact rfl; exact rfl; exact rfl; exact rfl; exact rfl; exact rfl; (show _ + _ * 1 + 1 ≤ List.length (List.map oneO _); (rw [List.length_map]; omega))
   refine rZ ?_; refine aoR fun _ => ?_
   refine rZ ?_
   (apply wD; exact rfl; exact rfl; exact rfl; exact rfl; exact rfl; exact setAt_self (show _ + _ * 1 < List.length (List.map oneO _) by (rw [List.length_map]; omega)))
   apply xT; exact rfl; exact .fn _ _ _; exact rfl; exact mS p.2 _ (hm).1 (Int.le_trans (hm).2 (by decide)) _; exact leP; exact rfl; simp
   refine rZ ?_; refine aoR fun _ => ?_
   refine rZ ?_; rotate_left
   exact uI
   refine uG fun _ => ?_; try omega
   have e : sStep p (all.getD (i : Int).toNat default) = (p.1.set (all.getD (i : Int).toNat default).var.toNat (p.1.getD (all.getD (i : Int).toNat default).var.toNat 0 + 1), capI (p.2 * (p.1.getD (all.getD (i : Int).toNat default).var.toNat 0 + 1))) := by unfold sStep; rw [hsts]; rfl
   rw [e] at hstep
   refine uU (i + 1) (by omega) (by omega) leP ?_
   rw [hstep]
   refine uP rfl ?_ (uY rfl (uS _))
   show [setAt (p.1.map oneO) (0 + (all.getD (i : Int).toNat default).var.toNat * 1) [oneO _]] = [manyO _]
   rw [Nat.mul_one, Nat.zero_add, lI _ _ _ _ (by omega)]; rfl
 ·have hil : i = all.length := by omega
  subst hil
  have e2 : sAll (all.take all.length) = B := by rw [List.take_length, hB]
  obtain ⟨g1, g2, g3, g4⟩ : SOk (0 + all.length) B := by have := hS all.length; rw [List.take_length] at this; rw [hB]; exact this
  rw [e2]
  clear hS h1 h2 h3 h4
  refine rZ ?_; refine aoR fun _ => ?_
  refine rZ ?_; refine cnd ?_ ?_
  refine uF fun _ => ?_; try omega
  refine uG fun _ => ?_; try omega
  refine rZ ?_; refine aoR fun _ => ?_
  refine rZ ?_; rotate_left
  rename_i w1 w2
  refine vB (X := Nat) (fun i => tmL [(3, .lo 3 (v1, 0) 4 0 0), (5, .lo 5 (v3, 0) 1 0 0), (6, .fn 115 [] [.lo 5 (v3, 0) 1 0 0]), (36, .d (.sl 10 (all.map stTV))), (37, .int .i64 all.length), (38, .int .i64 i)]) (fun i => stL [(3, ((v1, 0), ⟨4, [manyO B.1]⟩)), (5, ((v3, 0), ⟨1, [[.int .i64 ((all.take i).foldl (lStep B.1) B.2)]]⟩))]) (fun i => i ≤ all.length ∧ 0 ≤ (all.take i).foldl (lStep B.1) B.2 ∧ (all.take i).foldl (lStep B.1) B.2 ≤ 10001) (fun i => all.length - i) 0 ⟨Nat.zero_le _, by simpa using ⟨g3, g4⟩⟩ (by repeat' (first | exact vW _ | exact uS _ | refine uL rfl ?_ | refine uY rfl ?_ | (refine vP rfl ?_ ?_; (simp)) | (refine uO rfl ?_ ?_; (simp)) | (refine uP rfl ?_ ?_; (simp)))) leP ?_
  rintro i ⟨hi, n0, n1⟩
  by_cases hlt : i < all.length
  ·have hx := hr (all.getD i default) (by rw [List.getD_eq_getElem?_getD, List.getElem?_eq_getElem hlt]; exact List.getElem_mem hlt)
   have hst := vT all default i hlt
   obtain ⟨s, hs⟩ : ∃ s, s = all.getD (i : Int).toNat default := ⟨_, rfl⟩
   have hs' : all.getD i default = s := by rw [hs, Int.toNat_natCast]
   have hb : s.lds = true → 0 ≤ s.var ∧ s.var ≤ 3 := fun h => sS (by rw [← hs']; exact hx) (lds_acc h)
   have c2 := jE s
   have c3 := nG s
   have hstep : (all.take (i + 1)).foldl (lStep B.1) B.2 = lStep B.1 ((all.take i).foldl (lStep B.1) B.2) s := by
    rw [hst, hs', List.foldl_append]; rfl
   obtain ⟨n, hn⟩ : ∃ n, n = (all.take i).foldl (lStep B.1) B.2 := ⟨_, rfl⟩
   rw [← hn] at hstep n0 n1 ⊢
   have hv := g2 s.var.toNat
   have hm := iM (k := 100) n0 n1 (show 0 ≤ B.1.getD s.var.toNat 0 + 1 by omega) (by omega) (by omega)
   have hm0 := iM (k := 100) n0 n1 (show 0 ≤ B.1.getD s.var.toNat 0 by omega) (by omega) (by omega)
   subst hs
   cases hl1 : (all.getD (i : Int).toNat default).lds with
   | false =>
    rw [hl1] at c3
    have e : lStep B.1 n (all.getD (i : Int).toNat default) = n := by unfold lStep; rw [hl1]; rfl
    rw [e] at hstep
    refine rZ ?_; refine aoR fun _ => ?_
    refine rZ ?_; refine cnd ?_ ?_
    refine uF fun _ => ?_; try omega
    refine rZ ?_; refine aoR fun _ => ?_
    refine rZ ?_; refine aoR fun _ => ?_
    refine rZ ?_
    apply uE; exact rfl; exact .fn _ _ _; exact rfl; exact c3
    refine rZ ?_; refine cnd ?_ ?_
    exact vN
    refine uV ?_; refine rZ ?_; refine aoR fun _ => ?_
    refine rZ ?_
    apply uE; exact rfl; exact .fn _ _ _; exact rfl; exact c3
    refine rZ ?_; refine cnd ?_ ?_
    exact vN
    refine uV ?_; refine rZ ?_; refine aoR fun _ => ?_
    refine rZ ?_; rotate_left
    refine uG fun _ => ?_; try omega
    refine uU (i + 1) ⟨by omega, by rw [hstep]; exact ⟨n0, n1⟩⟩ (by omega) leP ?_
    rw [hstep]
    exact leP
   | true =>
    rw [hl1] at c3
    obtain ⟨hb1, hb2⟩ := hb hl1
    cases hs1 : (all.getD (i : Int).toNat default).sts with
    | true =>
     rw [hs1] at c2
     have e : lStep B.1 n (all.getD (i : Int).toNat default) = capI (n * B.1.getD (all.getD (i : Int).toNat default).var.toNat 0) := by unfold lStep; rw [hl1, hs1]; rfl
     rw [e] at hstep
     refine rZ ?_; refine aoR fun _ => ?_
     refine rZ ?_; refine cnd ?_ ?_
     refine uF fun _ => ?_; try omega
     refine rZ ?_; refine aoR fun _ => ?_
     refine rZ ?_; refine aoR fun _ => ?_
     refine rZ ?_
     apply uE; exact rfl; exact .fn _ _ _; exact rfl; exact c3
     refine rZ ?_
     apply spT; exact rfl
     intro hc_
     have hp_ := hc_; try simp only [nrm] at hp_
     apply uZ; exact evm; exact .fn _ _ _; exact wP; exact c2
     refine rZ ?_; refine cnd ?_ ?_; refine wT ?_
     iterate 2 refine uH ?_
     refine aoR fun _ => ?_; refine rZ ?_
     apply wD; exact rfl; exact rfl; exact rfl; exact rfl; exact rfl; (rw [show te3.size = 1 from rfl, Nat.mul_one, Nat.zero_add]; exact uW (f := oneO) (by omega) 0)
     apply xT; exact rfl; exact .fn _ _ _; exact rfl; exact mS n _ (hm0).1 (Int.le_trans (hm0).2 (by decide)) _; exact leP; exact rfl; simp
     refine rZ ?_; refine aoR fun _ => ?_
     refine rZ ?_; rotate_left
     refine wU (fun hc_ => ?_); (try simp only [nrm] at hc_)
     refine rZ ?_; refine aoR fun _ => ?_
     refine rZ ?_
     apply uE; exact rfl; exact .fn _ _ _; exact rfl; exact c3
     refine rZ ?_; refine cnd ?_ ?_; refine uH ?_; refine aoR fun _ => ?_
     refine rZ ?_
     apply wD; exact rfl; exact rfl; exact rfl; exact rfl; exact rfl; (rw [show te3.size = 1 from rfl, Nat.mul_one, Nat.zero_add]; exact uW (f := oneO) (by omega) 0)
     refine rZ ?_; rotate_left
     exact uI
     refine uG fun _ => ?_; try omega
     all_goals try (exact (rF ‹_›).elim)
     refine uU (i + 1) ⟨by omega, by rw [hstep]; exact qP hm0.1⟩ (by omega) leP ?_
     rw [hstep]
     exact leP
    | false =>
     rw [hs1] at c2
     have e : lStep B.1 n (all.getD (i : Int).toNat default) = capI (n * (B.1.getD (all.getD (i : Int).toNat default).var.toNat 0 + 1)) := by unfold lStep; rw [hl1, hs1]; rfl
     rw [e] at hstep
     refine rZ ?_; refine aoR fun _ => ?_
     refine rZ ?_; refine cnd ?_ ?_
     refine uF fun _ => ?_; try omega
     refine rZ ?_; refine aoR fun _ => ?_
     refine rZ ?_; refine aoR fun _ => ?_
     refine rZ ?_
     apply uE; exact rfl; exact .fn _ _ _; exact rfl; exact c3
     refine rZ ?_
     apply spT; exact rfl
     intro hc_
     have hp_ := hc_; try simp only [nrm] at hp_
     apply uZ; exact evm; exact .fn _ _ _; exact wP; exact c2
     refine rZ ?_; refine cnd ?_ ?_; refine wT ?_; refine uH ?_
     exact vN
     refine wU (fun hc_ => ?_); (try simp only [nrm] at hc_)
     refine rZ ?_; refine aoR fun _ => ?_
     refine rZ ?_
     apply uE; exact rfl; exact .fn _ _ _; exact rfl; exact c3
     refine rZ ?_; refine cnd ?_ ?_; refine uH ?_; refine aoR fun _ => ?_
     refine rZ ?_
     apply wD; exact rfl; exact rfl; exact rfl; exact rfl; exact rfl; (rw [show te3.size = 1 from rfl, Nat.mul_one, Nat.zero_add]; exact uW (f := oneO) (by omega) 0)
     refine rZ ?_
     apply xT; exact rfl; exact .fn _ _ _; exact rfl; exact mS n _ (hm).1 (Int.le_trans (hm).2 (by decide)) _; exact leP; exact rfl; simp
     refine rZ ?_; refine aoR fun _ => ?_
     refine rZ ?_; rotate_left
     exact uI
     refine uG fun _ => ?_; try omega
     refine uU (i + 1) ⟨by omega, by rw [hstep]; exact qP hm.1⟩ (by omega) leP ?_
     rw [hstep]
     exact leP
  ·have hil : i = all.length := by omega
   subst hil
   refine rZ ?_; refine aoR fun _ => ?_
   refine rZ ?_; refine cnd ?_ ?_
   refine uF fun _ => ?_; try omega
   refine uG fun _ => ?_; try omega
   refine rZ ?_; refine aoR fun _ => ?_
   refine rZ ?_; rotate_left
   refine wL rfl ?_
   rw [List.take_length, hB]
end Go.Proofs.YtjogffchdejabaaGreatDoor
