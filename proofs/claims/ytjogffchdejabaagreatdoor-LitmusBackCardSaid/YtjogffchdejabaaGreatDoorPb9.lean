/- Parts. -/
import Derived.Maps.OwnSet
import Derived.Maps.OwnOps
import Derived.WideKeyEntry
import Derived.Test.YtjogffchdejabaaGreatDoorRows
import Derived.WalkKit
import Derived.WalkSpells
import Derived.WalkLawsBesides
import Derived.Deep.QuietTactic
import Derived.BigQuiet
import Derived.ProofKit
import Derived.Lib.Hide
import Derived.Deep.DeepCutAuto
import Derived.Lib.SmallJoins
import Derived.WideKeyArgs
import Derived.Deep.SlicePairs
import Derived.SizedLaws
import Derived.OpenShut
import Derived.Test.YtjogffchdejabaaGreatDoorPb3
import Derived.Test.YtjogffchdejabaaGreatDoorPb4
import Derived.Test.YtjogffchdejabaaGreatDoorPb8
set_option linter.unusedVariables false
set_option linter.unusedSimpArgs false
set_option maxHeartbeats 4000000
namespace Go.Proofs.YtjogffchdejabaaGreatDoor
open Go.RowKit
section
open Go.Lib
def Stp.n32 (s : Stp) : Prop := 0 ≤ s.num ∧ s.num ≤ 4294967295
theorem sY : (0 : Int) ≤ 0 ∧ (0 : Int) ≤ 4294967295 := by decide
theorem eM (n : Int) : valW 0 n = decDigits n.toNat := rfl
theorem zJ {d : Int} (n : Int) (h : 0 < d) : valW d n = regW d := if_pos h
theorem gR {w : Bt} {o : Int × Int} (h : operOf w = some o) : w = valW o.1 o.2 ∧ (0 ≤ o.1 ∧ o.1 ≤ 4) ∧ (o.1 = 0 ∨ o.2 = 0) ∧ 0 ≤ o.2 ∧ o.2 ≤ 4294967295 := by
 unfold operOf at h
 split at h
 ·obtain ⟨n, hn, rfl⟩ := Option.map_eq_some_iff.1 h
  have hr := yH hn
  refine ⟨?_, ⟨?_, ?_⟩, Or.inr rfl, Int.le_refl 0, (by decide : (0 : Int) ≤ 4294967295)⟩
  ·rw [zJ _ (by have := hr.1.1; show 0 < n; omega)]; exact hr.2
  ·have := hr.1.1; show 0 ≤ n; omega
  ·exact hr.1.2
 ·obtain ⟨n, hn, rfl⟩ := Option.map_eq_some_iff.1 h
  have hr := jF hn
  refine ⟨?_, ⟨Int.le_refl 0, (by decide : (0 : Int) ≤ 4)⟩, Or.inl rfl, ?_, ?_⟩
  ·rw [eM]; simpa using hr.2
  ·show 0 ≤ (n : Int); omega
  ·show (n : Int) ≤ 4294967295; have := hr.1; omega
theorem dec_head (n : Nat) : (decDigits n).head? ≠ some 114 := by
 intro h
 cases e : decDigits n with
 | nil => rw [e] at h; cases h
 | cons c r =>
  rw [e] at h
  simp only [List.head?_cons, Option.some.injEq] at h
  have := cY (u := n) c (by rw [e]; simp)
  subst h
  revert this; decide
theorem dT {d n : Int} (hd : 0 ≤ d ∧ d ≤ 4) (h0 : d = 0 ∨ n = 0) (hn : 0 ≤ n ∧ n ≤ 4294967295) : operOf (valW d n) = some (d, n) := by
 by_cases h : 0 < d
 ·have : n = 0 := by omega
  subst this
  rw [zJ _ h]
  unfold operOf
  rw [if_pos (by rfl), zO ⟨by omega, hd.2⟩]; rfl
 ·have : d = 0 := by omega
  subst this
  rw [eM]
  unfold operOf
  rw [if_neg (dec_head _), numOf_dec (by omega)]
  simp only [Option.map_some, Option.some.injEq, Prod.mk.injEq, true_and]
  omega
theorem nW (w : Bt) (ws : List Bt) : ws = (if (sufAq w ws).1 then [w] else []) ++ (sufAq w ws).2 := by
 unfold sufAq
 split
 ·split
  ·rename_i h; rw [h]; rfl
  ·rfl
 ·rfl
theorem sufBy_some {ws : List Bt} {p : Int × List Bt} (h : sufBy ws = some p) : ws = (if 0 < p.1 then [wBy, regW p.1] else []) ++ p.2 ∧ 0 ≤ p.1 ∧ p.1 ≤ 4 := by
 unfold sufBy at h
 split at h
 ·split at h
  ·rename_i e
   obtain ⟨n, hn, rfl⟩ := Option.map_eq_some_iff.1 h
   have hr := yH hn
   refine ⟨?_, ?_, hr.1.2⟩
   ·rw [if_pos (by have := hr.1.1; show 0 < n; omega), e, hr.2]; rfl
   ·have := hr.1.1; show 0 ≤ n; omega
  ·cases h; exact ⟨rfl, Int.le_refl 0, (by decide : (0 : Int) ≤ 4)⟩
 ·cases h; exact ⟨rfl, Int.le_refl 0, (by decide : (0 : Int) ≤ 4)⟩
theorem bK {ws : List Bt} {x : Int × Bool × Bool} (h : suffOf ws = some x) : ws = tailW x.1 x.2.1 x.2.2 ∧ 0 ≤ x.1 ∧ x.1 ≤ 4 := by
 unfold suffOf at h
 obtain ⟨p, hp, h⟩ := Option.bind_eq_some_iff.1 h
 split at h
 ·rename_i e
  cases h
  have h1 := sufBy_some hp
  refine ⟨?_, h1.2⟩
  have h2 := nW wAq p.2
  have h3 := nW wRl (sufAq wAq p.2).2
  rw [e, List.append_nil] at h3
  unfold tailW
  rw [← h3, ← h2]
  exact h1.1
 ·cases h
theorem zV {b : Int} (hb : 0 ≤ b ∧ b ≤ 4) (a r : Bool) : suffOf (tailW b a r) = some (b, a, r) := by
 rcases (by omega : b = 0 ∨ b = 1 ∨ b = 2 ∨ b = 3 ∨ b = 4) with rfl | rfl | rfl | rfl | rfl <;> cases a <;> cases r <;> decide
theorem gO {p q : Int} (hp : 1 ≤ p ∧ p ≤ 3) (hq : 1 ≤ q ∧ q ≤ 3) : (⟨5, 0, 0, 0, 0, 0, false, false, p, q⟩ : Stp).right = true := by
 simp [Stp.right, Stp.bare, Stp.lds, Stp.sts, Stp.acc, inR]; omega
theorem oB {n : Int} (h : 1 ≤ n ∧ n ≤ 4) : (⟨6, n, 0, 0, 0, 0, false, false, 0, 0⟩ : Stp).right = true := by
 simp [Stp.right, Stp.bare, Stp.lds, Stp.sts, Stp.acc, inR]; omega
theorem iS {r v b : Int} {a l : Bool} (hr : 1 ≤ r ∧ r ≤ 4) (hv : 0 ≤ v ∧ v ≤ 3) (hb : 0 ≤ b ∧ b ≤ 4) : (⟨1, r, v, 0, 0, b, a, l, 0, 0⟩ : Stp).right = true := by
 simp [Stp.right, Stp.bare, Stp.lds, Stp.sts, Stp.acc, inR]; omega
theorem gN {v n d b : Int} {a l : Bool} (hv : 0 ≤ v ∧ v ≤ 3) (hb : 0 ≤ b ∧ b ≤ 4) (hd : 0 ≤ d ∧ d ≤ 4) (h0 : d = 0 ∨ n = 0) : (⟨2, 0, v, n, d, b, a, l, 0, 0⟩ : Stp).right = true := by
 simp [Stp.right, Stp.bare, Stp.lds, Stp.sts, Stp.acc, inR]; omega
theorem iT {k r v n d b : Int} {a l : Bool} (hk : k = 3 ∨ k = 4) (hr : 1 ≤ r ∧ r ≤ 4) (hv : 0 ≤ v ∧ v ≤ 3) (hb : 0 ≤ b ∧ b ≤ 4) (hd : 0 ≤ d ∧ d ≤ 4) (h0 : d = 0 ∨ n = 0) : (⟨k, r, v, n, d, b, a, l, 0, 0⟩ : Stp).right = true := by
 rcases hk with rfl | rfl <;> (simp [Stp.right, Stp.bare, Stp.lds, Stp.sts, Stp.acc, inR]; omega)
inductive Shape : Stp → Prop where
 | fence (p q : Int) (hp : 1 ≤ p ∧ p ≤ 3) (hq : 1 ≤ q ∧ q ≤ 3) : Shape ⟨5, 0, 0, 0, 0, 0, false, false, p, q⟩
 | cond (n : Int) (h : 1 ≤ n ∧ n ≤ 4) : Shape ⟨6, n, 0, 0, 0, 0, false, false, 0, 0⟩
 | load (r v b : Int) (a l : Bool) (hr : 1 ≤ r ∧ r ≤ 4) (hv : 0 ≤ v ∧ v ≤ 3) (hb : 0 ≤ b ∧ b ≤ 4) : Shape ⟨1, r, v, 0, 0, b, a, l, 0, 0⟩
 | store (v n d b : Int) (a l : Bool) (hv : 0 ≤ v ∧ v ≤ 3) (hb : 0 ≤ b ∧ b ≤ 4) (hd : 0 ≤ d ∧ d ≤ 4) (h0 : d = 0 ∨ n = 0) : Shape ⟨2, 0, v, n, d, b, a, l, 0, 0⟩
 | both (k r v n d b : Int) (a l : Bool) (hk : k = 3 ∨ k = 4) (hr : 1 ≤ r ∧ r ≤ 4) (hv : 0 ≤ v ∧ v ≤ 3) (hb : 0 ≤ b ∧ b ≤ 4) (hd : 0 ≤ d ∧ d ≤ 4) (h0 : d = 0 ∨ n = 0) : Shape ⟨k, r, v, n, d, b, a, l, 0, 0⟩
theorem Shape.right {s : Stp} (h : Shape s) : s.right = true := by
 cases h with
 | fence p q hp hq => exact gO hp hq
 | cond n h => exact oB h
 | load r v b a l hr hv hb => exact iS hr hv hb
 | store v n d b a l hv hb hd h0 => exact gN hv hb hd h0
 | both k r v n d b a l hk hr hv hb hd h0 => exact iT hk hr hv hb hd h0
theorem aI {s : Stp} (h : s.right = true) : Shape s := by
 obtain ⟨k, r, v, n, d, b, a, l, p, q⟩ := s
 unfold Stp.right at h
 split at h
 ·cases h
 ·rename_i hc
  simp only [Bool.or_eq_true, Bool.not_eq_true', decide_eq_false_iff_not, not_or, Classical.not_not] at hc
  obtain ⟨hb, hk⟩ := hc
  have hk' : 1 ≤ k ∧ k ≤ 6 := by simpa [inR] using hk
  rcases (by omega : k = 1 ∨ k = 2 ∨ k = 3 ∨ k = 4 ∨ k = 5 ∨ k = 6) with rfl | rfl | rfl | rfl | rfl | rfl <;>
   simp [Stp.bare, Stp.lds, Stp.sts, Stp.acc, inR] at hb h
  ·obtain ⟨rfl, rfl, rfl, rfl⟩ := hb
   exact .load _ _ _ _ _ (by omega) (by omega) (by omega)
  ·obtain ⟨rfl, rfl, rfl⟩ := hb
   exact .store _ _ _ _ _ _ (by omega) (by omega) (by omega) (by omega)
  ·obtain ⟨rfl, rfl⟩ := hb
   exact .both _ _ _ _ _ _ _ _ (Or.inl rfl) (by omega) (by omega) (by omega) (by omega) (by omega)
  ·obtain ⟨rfl, rfl⟩ := hb
   exact .both _ _ _ _ _ _ _ _ (Or.inr rfl) (by omega) (by omega) (by omega) (by omega) (by omega)
  ·obtain ⟨rfl, rfl, rfl, rfl, rfl, rfl, rfl⟩ := hb
   exact .fence _ _ (by omega) (by omega)
  ·obtain ⟨rfl, rfl, rfl, rfl, rfl, rfl, rfl, rfl⟩ := hb
   exact .cond _ (by omega)
theorem cP {n : Int} (h : 1 ≤ n ∧ n ≤ 4) : regW n ≠ wFence ∧ regW n ≠ wIf := by
 rcases sH h with rfl | rfl | rfl | rfl <;> decide
theorem bQ {n : Int} (h : 0 ≤ n ∧ n ≤ 3) : nameW n ≠ wFence ∧ nameW n ≠ wIf ∧ nameW n ≠ wSwap ∧ nameW n ≠ wAdd ∧ (nameW n).head? ≠ some 114 := by
 rcases (by omega : n = 0 ∨ n = 1 ∨ n = 2 ∨ n = 3) with rfl | rfl | rfl | rfl <;> decide
theorem qL {d n : Int} (hd : 0 ≤ d ∧ d ≤ 4) : valW d n ≠ wSwap ∧ valW d n ≠ wAdd := by
 by_cases h : 0 < d
 ·rw [zJ _ h]
  rcases sH (n := d) ⟨by omega, hd.2⟩ with rfl | rfl | rfl | rfl <;> decide
 ·have : d = 0 := by omega
  subst this
  rw [eM]
  have hno : ∀ w : Bt, (∃ c ∈ w, 57 < c.toNat) → decDigits n.toNat ≠ w := fun w ⟨c, hc, h⟩ e => by
   have := cY (u := n.toNat) c (by rw [e]; exact hc)
   omega
  exact ⟨hno _ ⟨115, by decide, by decide⟩, hno _ ⟨97, by decide, by decide⟩⟩
theorem stepW_words {s : Stp} (h : s.right = true) (hn : s.n32) : stepW (wordsOf s) = some s := by
 cases aI h with
 | fence p q hp hq =>
  show stepW [wFence, setW p, setW q] = _
  unfold stepW
  rw [if_pos (by rfl)]
  simp only [fenceOf, iR hp, iR hq, Option.bind_some, Option.map_some]
 | cond n hc =>
  show stepW [wIf, regW n] = _
  unfold stepW
  rw [if_neg (by simp [wIf, wFence]), if_pos (by rfl)]
  simp only [ifOf, zO hc, Option.map_some]
 | load r v b a l hr hv hb =>
  show stepW (regW r :: wEq :: nameW v :: tailW b a l) = _
  unfold stepW
  rw [if_neg (by exact (cP hr).1), if_neg (by exact (cP hr).2), if_neg (by simp), if_neg (by exact (bQ hv).2.2.1), if_neg (by exact (bQ hv).2.2.2.1), if_pos (by rfl)]
  simp only [loadOf, zO hr, yZ hv, zV hb, Option.bind_some, Option.map_some]
 | store v n d b a l hv hb hd h0 =>
  show stepW (nameW v :: wEq :: valW d n :: tailW b a l) = _
  unfold stepW
  rw [if_neg (by exact (bQ hv).1), if_neg (by exact (bQ hv).2.1), if_neg (by simp), if_neg (by exact (qL hd).1), if_neg (by exact (qL hd).2), if_neg (by exact (bQ hv).2.2.2.2)]
  simp only [storeOf, yZ hv, dT hd h0 hn, zV hb, Option.bind_some, Option.map_some]
 | both k r v n d b a l hk hr hv hb hd h0 =>
  rcases hk with rfl | rfl
  ·show stepW (regW r :: wEq :: wSwap :: nameW v :: valW d n :: tailW b a l) = _
   unfold stepW
   rw [if_neg (by exact (cP hr).1), if_neg (by exact (cP hr).2), if_neg (by simp), if_pos (by rfl)]
   simp only [bothOf, zO hr, yZ hv, dT hd h0 hn, zV hb, Option.bind_some, Option.map_some]
  ·show stepW (regW r :: wEq :: wAdd :: nameW v :: valW d n :: tailW b a l) = _
   unfold stepW
   rw [if_neg (by exact (cP hr).1), if_neg (by exact (cP hr).2), if_neg (by simp), if_neg (by exact (by decide : wAdd ≠ wSwap)), if_pos (by rfl)]
   simp only [bothOf, zO hr, yZ hv, dT hd h0 hn, zV hb, Option.bind_some, Option.map_some]
theorem stepW_some {ws : List Bt} {s : Stp} (h : stepW ws = some s) : s.right = true ∧ s.n32 ∧ wordsOf s = ws := by
 unfold stepW at h
 split at h
 ·rename_i h0
  rcases ws with _ | ⟨x, _ | ⟨a, _ | ⟨b, _ | ⟨c, r⟩⟩⟩⟩ <;> first | (simp [fenceOf] at h; done) | skip
  simp only [fenceOf] at h
  obtain ⟨p, hp, h⟩ := Option.bind_eq_some_iff.1 h
  obtain ⟨q, hq, rfl⟩ := Option.map_eq_some_iff.1 h
  have h1 := dO hp
  have h2 := dO hq
  refine ⟨gO h1.1 h2.1, sY, ?_⟩
  show [wFence, setW p, setW q] = _
  rw [← h1.2, ← h2.2, ← h0]; rfl
 split at h
 ·rename_i h0
  rcases ws with _ | ⟨x, _ | ⟨a, _ | ⟨b, r⟩⟩⟩ <;> first | (simp [ifOf] at h; done) | skip
  simp only [ifOf] at h
  obtain ⟨p, hp, rfl⟩ := Option.map_eq_some_iff.1 h
  have h1 := yH hp
  refine ⟨oB h1.1, sY, ?_⟩
  show [wIf, regW p] = _
  rw [← h1.2, ← h0]; rfl
 split at h
 ·cases h
 rename_i h3
 obtain ⟨h3, hq⟩ := Classical.not_not.1 h3
 rcases ws with _ | ⟨x, _ | ⟨y, _ | ⟨z, r⟩⟩⟩ <;> first | (simp at h3; done) | skip
 have hq' : y = wEq := hq
 subst hq'
 have both : ∀ k w, (k = 3 ∧ w = wSwap ∨ k = 4 ∧ w = wAdd) → z = w → bothOf k (x :: wEq :: z :: r) = some s → s.right = true ∧ s.n32 ∧ wordsOf s = x :: wEq :: z :: r := by
  intro k w hk hz h
  rcases r with _ | ⟨v, _ | ⟨o, r⟩⟩ <;> first | (simp [bothOf] at h; done) | skip
  simp only [bothOf] at h
  obtain ⟨r1, e1, h⟩ := Option.bind_eq_some_iff.1 h
  obtain ⟨v1, e2, h⟩ := Option.bind_eq_some_iff.1 h
  obtain ⟨o1, e3, h⟩ := Option.bind_eq_some_iff.1 h
  obtain ⟨x1, e4, rfl⟩ := Option.map_eq_some_iff.1 h
  have g1 := yH e1
  have g2 := zZ e2
  have g3 := gR e3
  have g4 := bK e4
  refine ⟨iT (hk.imp And.left And.left) g1.1 g2.1 g4.2 g3.2.1 g3.2.2.1, g3.2.2.2, ?_⟩
  rw [hz, g1.2, g2.2, g4.1]
  conv => rhs; rw [g3.1]
  rcases hk with ⟨rfl, rfl⟩ | ⟨rfl, rfl⟩ <;> rfl
 split at h
 ·rename_i hz
  exact both 3 wSwap (Or.inl ⟨rfl, rfl⟩) hz h
 split at h
 ·rename_i hz
  exact both 4 wAdd (Or.inr ⟨rfl, rfl⟩) hz h
 split at h
 ·simp only [loadOf] at h
  obtain ⟨r1, e1, h⟩ := Option.bind_eq_some_iff.1 h
  obtain ⟨v1, e2, h⟩ := Option.bind_eq_some_iff.1 h
  obtain ⟨x1, e4, rfl⟩ := Option.map_eq_some_iff.1 h
  have g1 := yH e1
  have g2 := zZ e2
  have g4 := bK e4
  refine ⟨iS g1.1 g2.1 g4.2, sY, ?_⟩
  rw [g1.2, g2.2, g4.1]; rfl
 ·simp only [storeOf] at h
  obtain ⟨v1, e2, h⟩ := Option.bind_eq_some_iff.1 h
  obtain ⟨o1, e3, h⟩ := Option.bind_eq_some_iff.1 h
  obtain ⟨x1, e4, rfl⟩ := Option.map_eq_some_iff.1 h
  have g2 := zZ e2
  have g3 := gR e3
  have g4 := bK e4
  refine ⟨gN g2.1 g4.2 g3.2.1 g3.2.2.1, g3.2.2.2, ?_⟩
  rw [g2.2, g4.1]
  conv => rhs; rw [g3.1]
  rfl
def lineB (s : Stp) : Bt := joinC 32 (wordsOf s)
def stepB (l : Bt) : Option Stp := stepW (splitC 32 l)
theorem eX {n : Int} (h : 1 ≤ n ∧ n ≤ 4) : (32 : UInt8) ∉ regW n ∧ (10 : UInt8) ∉ regW n := by
 rcases sH h with rfl | rfl | rfl | rfl <;> decide
theorem eZ {n : Int} (h : 0 ≤ n ∧ n ≤ 3) : (32 : UInt8) ∉ nameW n ∧ (10 : UInt8) ∉ nameW n := by
 rcases (by omega : n = 0 ∨ n = 1 ∨ n = 2 ∨ n = 3) with rfl | rfl | rfl | rfl <;> decide
theorem qS {n : Int} (h : 1 ≤ n ∧ n ≤ 3) : (32 : UInt8) ∉ setW n ∧ (10 : UInt8) ∉ setW n := by
 rcases (by omega : n = 1 ∨ n = 2 ∨ n = 3) with rfl | rfl | rfl <;> decide
theorem dec_no (u : Nat) : (32 : UInt8) ∉ decDigits u ∧ (10 : UInt8) ∉ decDigits u :=
 ⟨fun h => absurd (cY 32 h).1 (by decide), fun h => absurd (cY 10 h).1 (by decide)⟩
theorem mH {d : Int} (n : Int) (hd : 0 ≤ d ∧ d ≤ 4) : (32 : UInt8) ∉ valW d n ∧ (10 : UInt8) ∉ valW d n := by
 by_cases h : 0 < d
 ·rw [zJ _ h]; exact eX ⟨by omega, hd.2⟩
 ·have : d = 0 := by omega
  subst this
  rw [eM]; exact dec_no _
theorem eO {b : Int} (hb : 0 ≤ b ∧ b ≤ 4) (a r : Bool) : ∀ w ∈ tailW b a r, (32 : UInt8) ∉ w ∧ (10 : UInt8) ∉ w := by
 rcases (by omega : b = 0 ∨ b = 1 ∨ b = 2 ∨ b = 3 ∨ b = 4) with rfl | rfl | rfl | rfl | rfl <;> cases a <;> cases r <;> decide
theorem nU {s : Stp} (h : s.right = true) : ∀ w ∈ wordsOf s, (32 : UInt8) ∉ w ∧ (10 : UInt8) ∉ w := by
 have lit : ∀ w : Bt, w ∈ [wFence, wIf, wSwap, wAdd, wEq] → (32 : UInt8) ∉ w ∧ (10 : UInt8) ∉ w := by decide
 cases aI h with
 | fence p q hp hq =>
  show ∀ w ∈ [wFence, setW p, setW q], _
  simp only [List.forall_mem_cons, List.not_mem_nil, false_implies, implies_true, and_true]
  exact ⟨lit _ (by simp), qS hp, qS hq⟩
 | cond n hc =>
  show ∀ w ∈ [wIf, regW n], _
  simp only [List.forall_mem_cons, List.not_mem_nil, false_implies, implies_true, and_true]
  exact ⟨lit _ (by simp), eX hc⟩
 | load r v b a l hr hv hb =>
  show ∀ w ∈ regW r :: wEq :: nameW v :: tailW b a l, _
  simp only [List.forall_mem_cons]
  exact ⟨eX hr, lit _ (by simp), eZ hv, eO hb a l⟩
 | store v n d b a l hv hb hd h0 =>
  show ∀ w ∈ nameW v :: wEq :: valW d n :: tailW b a l, _
  simp only [List.forall_mem_cons]
  exact ⟨eZ hv, lit _ (by simp), mH n hd, eO hb a l⟩
 | both k r v n d b a l hk hr hv hb hd h0 =>
  rcases hk with rfl | rfl
  ·show ∀ w ∈ regW r :: wEq :: wSwap :: nameW v :: valW d n :: tailW b a l, _
   simp only [List.forall_mem_cons]
   exact ⟨eX hr, lit _ (by simp), lit _ (by simp), eZ hv, mH n hd, eO hb a l⟩
  ·show ∀ w ∈ regW r :: wEq :: wAdd :: nameW v :: valW d n :: tailW b a l, _
   simp only [List.forall_mem_cons]
   exact ⟨eX hr, lit _ (by simp), lit _ (by simp), eZ hv, mH n hd, eO hb a l⟩
theorem words_ne (s : Stp) : wordsOf s ≠ [] := by
 unfold wordsOf
 (repeat' split) <;> simp
theorem split_line {s : Stp} (h : s.right = true) : splitC 32 (lineB s) = wordsOf s := iQ 32 _ (words_ne s) fun w hw => (nU h w hw).1
theorem fU {l : Bt} {s : Stp} : stepB l = some s ↔ s.right = true ∧ s.n32 ∧ lineB s = l := by
 constructor
 ·intro h
  obtain ⟨h1, h2, h3⟩ := stepW_some h
  refine ⟨h1, h2, ?_⟩
  unfold lineB
  rw [h3, dW]
 ·rintro ⟨h1, h2, rfl⟩
  unfold stepB
  rw [split_line h1]
  exact stepW_words h1 h2
theorem oU {c d : UInt8} (hcd : c ≠ d) : ∀ ws : List Bt, (∀ w ∈ ws, d ∉ w) → d ∉ joinC c ws
 | [], _ => by simp [joinC]
 | [w], h => h w (by simp)
 | w :: v :: ws, h => by
  have ih := oU hcd (v :: ws) fun x hx => h x (by simp [hx])
  have h0 := h w (by simp)
  rw [joinC]
  simp only [List.mem_append, List.mem_cons, not_or]
  exact ⟨h0, fun e => hcd e.symm, ih⟩
theorem line_no {s : Stp} (h : s.right = true) : (10 : UInt8) ∉ lineB s := oU (by decide) _ fun w hw => (nU h w hw).2
theorem stepB_hart : stepB wHart = none := by decide
theorem line_hart {s : Stp} (h : s.right = true) (hn : s.n32) : lineB s ≠ wHart := fun e => by
 have := fU.2 ⟨h, hn, e⟩
 rw [stepB_hart] at this; cases this
end
variable {x : Operand} {tm : Tm} {σ : Store} {w w' : World} {M : Mem} {kd : TypeDesc} {k : Value} {P : Program} {kt : TypeId} {b B : Nat} {K R : OV → Store → Prop} {o : Oper} {g : Gh} {y : OV} {L : List (Value × TV)} {r : Option TV} {q : IntKind} {xs : List Int} {l : List (Int × Int)} {H α : Type} {a : Addr}
abbrev Ts := List (List Stp)
variable {t : Ts}
def capI (n : Int) : Int := if 10001 < n then 10001 else n
def sStep (p : List Int × Int) (s : Stp) : List Int × Int := bif s.sts then (p.1.set s.var.toNat (p.1.getD s.var.toNat 0 + 1), capI (p.2 * (p.1.getD s.var.toNat 0 + 1))) else p
def lStep (m : List Int) (n : Int) (s : Stp) : Int := bif s.lds && s.sts then capI (n * m.getD s.var.toNat 0) else bif s.lds then capI (n * (m.getD s.var.toNat 0 + 1)) else n
def sAll (l : List Stp) : List Int × Int := l.foldl sStep ([0, 0, 0, 0], 1)
def waysT (t : Ts) : Int := t.flatten.foldl (lStep (sAll t.flatten).1) (sAll t.flatten).2
def accs (l : List Stp) : Nat := (l.filter Stp.acc).length
def threadOk (l : List Stp) : Bool := decide (l.length ≤ 16) && l.all Stp.right
def checkT (t : Ts) : Int :=
 if t.length < 1 ∨ 4 < t.length then 2
 else if t.all threadOk = false then 2
 else if 8 < accs t.flatten ∨ 10000 < waysT t then 2 else 0
section
open Go.Lib
def cutC (c : UInt8) : Bt → Bt × Bt × Bool
 | [] => ([], [], false)
 | x :: l => if x = c then ([], l, true) else (x :: (cutC c l).1, (cutC c l).2)
theorem jW (c : UInt8) : ∀ (w l : Bt), c ∉ w → cutC c (w ++ c :: l) = (w, l, true)
 | [], l, _ => by simp [cutC]
 | x :: w, l, h => by
  have hx : ¬ x = c := fun e => h (by simp [e])
  rw [List.cons_append, cutC, if_neg hx, jW c w l (fun e => h (by simp [e]))]
theorem nL (c : UInt8) : ∀ l : Bt, (cutC c l).2.2 = true → l = (cutC c l).1 ++ c :: (cutC c l).2.1
 | [], h => by simp [cutC] at h
 | x :: l, h => by
  rw [cutC] at h ⊢
  split at h
  ·rename_i e
   rw [if_pos e, e]; rfl
  ·rename_i e
   rw [if_neg e]
   have := nL c l h
   rw [List.cons_append, ← this]
theorem rV (c : UInt8) : ∀ l : Bt, (cutC c l).2.1.length ≤ l.length
 | [] => by simp [cutC]
 | x :: l => by
  rw [cutC]
  split
  ·simp
  ·have := rV c l
   simp only [List.length_cons]; omega
theorem cZ (c : UInt8) {l : Bt} (h : l ≠ []) : (cutC c l).2.1.length < l.length := by
 cases l with
 | nil => exact absurd rfl h
 | cons x l =>
  rw [cutC]
  split
  ·simp
  ·have := rV c l
   simp only [List.length_cons]; omega
def threadB (l : List Stp) : Bt := wHart ++ 10 :: (l.map fun s => lineB s ++ [10]).flatten
def printT (t : Ts) : Bt := (t.map threadB).flatten
theorem dR (a b : Ts) : printT (a ++ b) = printT a ++ printT b := by simp [printT]
def addS (t : Ts) (s : Stp) : Ts := t.set (t.length - 1) (t.getD (t.length - 1) [] ++ [s])
theorem dE (a : Ts) (l : List Stp) (s : Stp) : addS (a ++ [l]) s = a ++ [l ++ [s]] := by
 unfold addS
 have e : (a ++ [l]).length - 1 = a.length := by simp
 have e2 : (a ++ [l]).getD a.length [] = l := by simp
 rw [e, e2, List.set_append_right _ _ (Nat.le_refl _)]
 simp
theorem qR (h : t ≠ []) : ∃ a l, t = a ++ [l] := ⟨_, _, (List.dropLast_concat_getLast h).symm⟩
theorem printT_add (h : t ≠ []) (s : Stp) : printT (addS t s) = printT t ++ (lineB s ++ [10]) := by
 obtain ⟨a, l, rfl⟩ := qR h
 rw [dE, dR, dR]
 simp [printT, threadB]
def parseGo : Nat → Bt → Ts → Int → Ts × Int × Int
 | 0, _, _, _ => ([], 0, 0)
 | f + 1, text, t, n =>
  if text = [] then (if checkT t = 0 then (t, 0, 0) else ([], 0, 190))
  else if (cutC 10 text).2.2 = true ∧ (cutC 10 text).1 = wHart ∧ t.length < 4 then parseGo f (cutC 10 text).2.1 (t ++ [[]]) (n + 1)
  else match stepB (cutC 10 text).1 with
   | none => ([], n, 190)
   | some s => if (cutC 10 text).2.2 = false ∨ t.length = 0 ∨ (t.getD (t.length - 1) []).length = 16 then ([], n, 190) else parseGo f (cutC 10 text).2.1 (addS t s) (n + 1)
def parseT (text : Bt) : Ts × Int × Int := if 1048576 < text.length then ([], 0, 3) else parseGo (text.length + 1) text [] 1
theorem zP : ∀ (f f' : Nat) (text : Bt) (t : Ts) (n : Int), text.length < f → text.length < f' → parseGo f text t n = parseGo f' text t n
 | 0, _, _, _, _, h, _ => absurd h (by omega)
 | _, 0, _, _, _, _, h => absurd h (by omega)
 | f + 1, f' + 1, text, t, n, h, h' => by
  rw [parseGo, parseGo]
  by_cases e : text = []
  ·rw [if_pos e, if_pos e]
  ·have hl := cZ 10 e
   rw [if_neg e, if_neg e]
   split
   ·exact zP f f' _ _ _ (by omega) (by omega)
   ·cases stepB (cutC 10 text).1 with
    | none => rfl
    | some s =>
     dsimp only
     split
     ·rfl
     ·exact zP f f' _ _ _ (by omega) (by omega)
def n32T (t : Ts) : Prop := ∀ l ∈ t, ∀ s ∈ l, Stp.n32 s
theorem n32_add (h : t ≠ []) (hn : n32T t) {s : Stp} (hs : s.n32) : n32T (addS t s) := by
 obtain ⟨a, l, rfl⟩ := qR h
 rw [dE]
 intro l' hl s' hs'
 rcases List.mem_append.1 hl with h1 | h1
 ·exact hn l' (by simp [h1]) s' hs'
 ·rw [List.mem_singleton] at h1
  subst h1
  rcases List.mem_append.1 hs' with h2 | h2
  ·exact hn l (by simp) s' h2
  ·rw [List.mem_singleton] at h2; subst h2; exact hs
theorem dS : ∀ (f : Nat) (text : Bt) (t v : Ts) (n k : Int), text.length < f → n32T t → parseGo f text t n = (v, k, 0) → checkT v = 0 ∧ k = 0 ∧ n32T v ∧ printT v = printT t ++ text
 | 0, _, _, _, _, _, h, _, _ => absurd h (by omega)
 | f + 1, text, t, v, n, k, h, hn, hp => by
  rw [parseGo] at hp
  by_cases e : text = []
  ·rw [if_pos e] at hp
   split at hp
   ·rename_i hc
    cases hp
    exact ⟨hc, rfl, hn, by rw [e, List.append_nil]⟩
   ·cases hp
  ·have hl := cZ 10 e
   rw [if_neg e] at hp
   split at hp
   ·rename_i hc
    have h1 := dS f _ _ _ _ _ (by omega) (fun l hl s hs => by
     rcases List.mem_append.1 hl with g | g
     ·exact hn l g s hs
     ·rw [List.mem_singleton] at g; subst g; cases hs) hp
    refine ⟨h1.1, h1.2.1, h1.2.2.1, ?_⟩
    have h2 := nL 10 text hc.1
    rw [hc.2.1] at h2
    rw [h1.2.2.2, dR, List.append_assoc]
    conv => rhs; rw [h2]
    simp [printT, threadB]
   ·split at hp
    ·cases hp
    ·rename_i s hs
     split at hp
     ·cases hp
     ·rename_i hc
      have hc' := not_or.1 hc
      have hne : t ≠ [] := fun e => hc'.2 (Or.inl (by rw [e]; rfl))
      have g := fU.1 hs
      have h1 := dS f _ _ _ _ _ (by omega) (n32_add hne hn g.2.1) hp
      refine ⟨h1.1, h1.2.1, h1.2.2.1, ?_⟩
      have h2 := nL 10 text (by simpa using hc'.1)
      rw [h1.2.2.2, printT_add hne, List.append_assoc]
      conv => rhs; rw [h2]
      rw [g.2.2]; simp
theorem parseT_back {text : Bt} {v : Ts} {k : Int} (h : parseT text = (v, k, 0)) : checkT v = 0 ∧ k = 0 ∧ n32T v ∧ printT v = text := by
 unfold parseT at h
 split at h
 ·cases h
 ·have := dS _ _ _ _ _ _ (by omega) (fun l hl => by cases hl) h
  simpa [printT] using this
theorem gQ : ∀ (l m : List Stp) (a : Ts) (r : Bt) (f : Nat) (n : Int), (∀ s ∈ l, s.right = true ∧ s.n32) → m.length + l.length ≤ 16 →
  parseGo (f + l.length) ((l.map fun s => lineB s ++ [10]).flatten ++ r) (a ++ [m]) n = parseGo f r (a ++ [m ++ l]) (n + l.length)
 | [], m, a, r, f, n, _, _ => by simp
 | s :: l, m, a, r, f, n, h, hl => by
  obtain ⟨hr, hn⟩ := h s (by simp)
  have hcut : cutC 10 (((s :: l).map fun s => lineB s ++ [10]).flatten ++ r) = (lineB s, (l.map fun s => lineB s ++ [10]).flatten ++ r, true) := by
   rw [List.map_cons, List.flatten_cons, List.append_assoc, List.append_assoc]
   exact jW 10 _ _ (line_no hr)
  have hne : ((s :: l).map fun s => lineB s ++ [10]).flatten ++ r ≠ [] := by simp
  rw [List.length_cons, ← Nat.add_assoc, parseGo, if_neg hne, hcut]
  rw [if_neg (fun hh => line_hart hr hn hh.2.1)]
  rw [fU.2 ⟨hr, hn, rfl⟩]
  dsimp only
  rw [List.length_cons] at hl
  rw [if_neg (by
   rintro (h1 | h1 | h1)
   ·cases h1
   ·simp at h1
   ·have e : (a ++ [m]).getD ((a ++ [m]).length - 1) [] = m := by simp
    rw [e] at h1; omega)]
  rw [dE, gQ l (m ++ [s]) a r f (n + 1) (fun x hx => h x (by simp [hx])) (by simp; omega)]
  congr 1
  ·simp
  ·simp; omega
def sizeTs : Ts → Nat
 | [] => 0
 | l :: t => 1 + l.length + sizeTs t
theorem dM : ∀ (t a : Ts) (r : Bt) (f : Nat) (n : Int), (∀ l ∈ t, l.length ≤ 16 ∧ ∀ s ∈ l, s.right = true ∧ s.n32) → a.length + t.length ≤ 4 →
  parseGo (f + sizeTs t) (printT t ++ r) a n = parseGo f r (a ++ t) (n + sizeTs t)
 | [], a, r, f, n, _, _ => by simp [printT, sizeTs]
 | l :: t, a, r, f, n, h, hl => by
  obtain ⟨h16, hs⟩ := h l (by simp)
  rw [List.length_cons] at hl
  have hcut : cutC 10 (printT (l :: t) ++ r) = (wHart, (l.map fun s => lineB s ++ [10]).flatten ++ (printT t ++ r), true) := by
   have e : printT (l :: t) ++ r = wHart ++ 10 :: ((l.map fun s => lineB s ++ [10]).flatten ++ (printT t ++ r)) := by simp [printT, threadB]
   rw [e]
   exact jW 10 _ _ (by decide)
  have hne : printT (l :: t) ++ r ≠ [] := by simp [printT, threadB]
  have ef : f + sizeTs (l :: t) = (f + sizeTs t + l.length) + 1 := by simp only [sizeTs]; omega
  rw [ef, parseGo, if_neg hne, hcut, if_pos ⟨rfl, rfl, by omega⟩]
  dsimp only
  rw [gQ l [] a _ _ _ hs (by simpa using h16), List.nil_append, dM t (a ++ [l]) r f _ (fun x hx => h x (by simp [hx])) (by simp; omega)]
  congr 1
  ·simp
  ·simp only [sizeTs]; omega
theorem dA (h : checkT t = 0) : 1 ≤ t.length ∧ t.length ≤ 4 ∧ ∀ l ∈ t, l.length ≤ 16 ∧ ∀ s ∈ l, s.right = true := by
 unfold checkT at h
 split at h
 ·cases h
 ·rename_i h1
  split at h
  ·cases h
  ·rename_i h2
   refine ⟨by omega, by omega, fun l hl => ?_⟩
   have := List.all_eq_true.1 (by simpa using h2 : t.all threadOk = true) l hl
   unfold threadOk at this
   simp only [Bool.and_eq_true, decide_eq_true_eq] at this
   exact ⟨this.1, List.all_eq_true.1 this.2⟩
theorem parse_print (h : checkT t = 0) (hn : n32T t) (hl : (printT t).length ≤ 1048576) : parseT (printT t) = (t, 0, 0) := by
 obtain ⟨h1, h4, ho⟩ := dA h
 unfold parseT
 rw [if_neg (by omega), zP _ (((printT t).length + 1) + sizeTs t) _ _ _ (by omega) (by omega)]
 have := dM t [] [] ((printT t).length + 1) 1 (fun l hl => ⟨(ho l hl).1, fun s hs => ⟨(ho l hl).2 s hs, hn l hl s hs⟩⟩) (by simpa using h4)
 rw [List.append_nil] at this
 rw [this, parseGo, if_pos rfl, List.nil_append, if_pos h]
theorem yU (n : Int) : (regW n).length = 2 := rfl
theorem zD (n : Int) : (nameW n).length ≤ 1 := by
 unfold nameW
 rcases n.toNat with _ | _ | _ | _ | k <;> simp
theorem eT (n : Int) : (setW n).length ≤ 2 := by
 unfold setW
 rcases n.toNat with _ | _ | _ | _ | k <;> simp
theorem rU (n : Nat) (h : n ≤ 4294967295) : (decDigits n).length ≤ 20 := by
 rw [decDigits_length]; exact nDigits_le20 n (by omega)
theorem bI {d n : Int} (hn : 0 ≤ n ∧ n ≤ 4294967295) : (valW d n).length ≤ 20 := by
 unfold valW
 split
 ·rw [yU]; omega
 ·exact rU _ (by omega)
theorem lP (c : UInt8) : ∀ ws : List Bt, (∀ w ∈ ws, w.length ≤ 20) → (joinC c ws).length ≤ 21 * ws.length
 | [], _ => by simp [joinC]
 | [w], h => by have := h w (by simp); simp [joinC]; omega
 | w :: v :: ws, h => by
  have ih := lP c (v :: ws) fun x hx => h x (by simp [hx])
  have h0 := h w (by simp)
  rw [joinC, List.length_append, List.length_cons]
  simp only [List.length_cons] at ih ⊢
  omega
theorem fT (b : Int) (a r : Bool) : (tailW b a r).length ≤ 4 ∧ ∀ w ∈ tailW b a r, w.length ≤ 20 := by
 unfold tailW
 by_cases h : 0 < b <;> cases a <;> cases r <;> simp [h, wBy, wAq, wRl, regW]
theorem words_len {s : Stp} (h : s.right = true) (hn : s.n32) : (wordsOf s).length ≤ 9 ∧ ∀ w ∈ wordsOf s, w.length ≤ 20 := by
 have reg := yU
 have name : ∀ n, (nameW n).length ≤ 20 := fun n => by have := zD n; omega
 have lit : ∀ w : Bt, w ∈ [wFence, wIf, wSwap, wAdd, wEq] → w.length ≤ 20 := by decide
 cases aI h with
 | fence p q hp hq =>
  refine ⟨(by decide : 3 ≤ 9), ?_⟩
  show ∀ w ∈ [wFence, setW p, setW q], _
  simp only [List.forall_mem_cons, List.not_mem_nil, false_implies, implies_true, and_true]
  have h3 := eT p
  have h4 := eT q
  exact ⟨lit _ (by simp), by omega, by omega⟩
 | cond n hc =>
  refine ⟨(by decide : 2 ≤ 9), ?_⟩
  show ∀ w ∈ [wIf, regW n], _
  simp only [List.forall_mem_cons, List.not_mem_nil, false_implies, implies_true, and_true]
  exact ⟨lit _ (by simp), by rw [reg]; omega⟩
 | load r v b a l hr hv hb =>
  have ht := fT b a l
  refine ⟨?_, ?_⟩
  ·show (regW r :: wEq :: nameW v :: tailW b a l).length ≤ 9
   simp only [List.length_cons]; omega
  ·show ∀ w ∈ regW r :: wEq :: nameW v :: tailW b a l, _
   simp only [List.forall_mem_cons]
   exact ⟨by rw [reg]; omega, lit _ (by simp), name v, ht.2⟩
 | store v n d b a l hv hb hd h0 =>
  have ht := fT b a l
  refine ⟨?_, ?_⟩
  ·show (nameW v :: wEq :: valW d n :: tailW b a l).length ≤ 9
   simp only [List.length_cons]; omega
  ·show ∀ w ∈ nameW v :: wEq :: valW d n :: tailW b a l, _
   simp only [List.forall_mem_cons]
   exact ⟨name v, lit _ (by simp), bI hn, ht.2⟩
 | both k r v n d b a l hk hr hv hb hd h0 =>
  have ht := fT b a l
  rcases hk with rfl | rfl
  ·refine ⟨?_, ?_⟩
   ·show (regW r :: wEq :: wSwap :: nameW v :: valW d n :: tailW b a l).length ≤ 9
    simp only [List.length_cons]; omega
   ·show ∀ w ∈ regW r :: wEq :: wSwap :: nameW v :: valW d n :: tailW b a l, _
    simp only [List.forall_mem_cons]
    exact ⟨by rw [reg]; omega, lit _ (by simp), lit _ (by simp), name v, bI hn, ht.2⟩
  ·refine ⟨?_, ?_⟩
   ·show (regW r :: wEq :: wAdd :: nameW v :: valW d n :: tailW b a l).length ≤ 9
    simp only [List.length_cons]; omega
   ·show ∀ w ∈ regW r :: wEq :: wAdd :: nameW v :: valW d n :: tailW b a l, _
    simp only [List.forall_mem_cons]
    exact ⟨by rw [reg]; omega, lit _ (by simp), lit _ (by simp), name v, bI hn, ht.2⟩
theorem oN {s : Stp} (h : s.right = true) (hn : s.n32) : (lineB s).length ≤ 189 := by
 obtain ⟨h1, h2⟩ := words_len h hn
 have := lP 32 _ h2
 unfold lineB
 omega
theorem gD : ∀ l : List Stp, (∀ s ∈ l, s.right = true ∧ s.n32) → ((l.map fun s => lineB s ++ [10]).flatten).length ≤ 190 * l.length
 | [], _ => by simp
 | s :: l, h => by
  have ih := gD l fun x hx => h x (by simp [hx])
  have h0 := oN (h s (by simp)).1 (h s (by simp)).2
  rw [List.map_cons, List.flatten_cons, List.length_append, List.length_append, List.length_cons]
  simp only [List.length_cons, List.length_nil]
  omega
theorem threadB_len {l : List Stp} (h16 : l.length ≤ 16) (h : ∀ s ∈ l, s.right = true ∧ s.n32) : (threadB l).length ≤ 3045 := by
 have := gD l h
 unfold threadB
 rw [List.length_append, List.length_cons]
 have e : wHart.length = 4 := rfl
 omega
theorem dQ : ∀ t : Ts, (∀ l ∈ t, l.length ≤ 16 ∧ ∀ s ∈ l, s.right = true ∧ s.n32) → (printT t).length ≤ 3045 * t.length
 | [], _ => by simp [printT]
 | l :: t, h => by
  have ih := dQ t fun x hx => h x (by simp [hx])
  have h0 := threadB_len (h l (by simp)).1 (h l (by simp)).2
  have e : printT (l :: t) = threadB l ++ printT t := rfl
  rw [e, List.length_append, List.length_cons]
  omega
end
set_option maxRecDepth 100000
section
variable {E : Env} {v j : Nat} {ops : Array Oper} {K : Tm → Store → Prop} {rest : List Oper} {tm : Tm} {σ : Store} {dst : Option Tmp} {ty : TypeId} {pos : String} {af : Array Edge}
theorem S_convU {S T : TypeId} {k : IntKind} {n : Int} {se te : TE} (hS : E.tab S = some se) (hT : E.tab T = some te) (hk : te.k = .sc (.int .u64)) (hs : se.k = .sc (.int k)) (hx : ev tm x = some (.int k n)) (h : 0 ≤ n ∧ n ≤ 18446744073709551615) (hc : AO E.P v ops K (j + 1) rest (tm.putO dst (.int .u64 n)) σ) : AO E.P v ops K j (⟨dst, .convert S T x, ty, pos, af, none⟩ :: rest) tm σ := by
 have e : IntKind.u64.wrap n = n := by rw [IntKind.wrap_u64]; omega
 refine uP (uAC hS hT hk hs hx) ?_
 rw [e]; exact hc
end
set_option maxHeartbeats 1000000 in
theorem lD {n : Int} (h : 1 ≤ n ∧ n ≤ 4) : Pure E.P 128 [.int .i64 n] (.bs (regW n)) := by
 rcases sH h with rfl | rfl | rfl | rfl
 ·refine fnA Tryz.func128 Tryz.ntmps128 ?_
  refine run ?_; refine aoR fun _ => ?_
  refine run ?_; refine aoR fun _ => ?_
  refine run ?_
  (apply wV; exact rfl; exact rfl; exact rfl; (exact ⟨_, _, rfl, by omega, rfl⟩); (exact ⟨_, _, rfl, by omega, rfl⟩); decide; decide)
  refine run ?_; rotate_left
  all_goals exact vM rfl rfl
 ·refine fnA Tryz.func128 Tryz.ntmps128 ?_
  refine run ?_; refine aoR fun _ => ?_
  refine run ?_; refine aoR fun _ => ?_
  refine run ?_
  (apply wV; exact rfl; exact rfl; exact rfl; (exact ⟨_, _, rfl, by omega, rfl⟩); (exact ⟨_, _, rfl, by omega, rfl⟩); decide; decide)
  refine run ?_; rotate_left
  all_goals exact vM rfl rfl
 ·refine fnA Tryz.func128 Tryz.ntmps128 ?_
  refine run ?_; refine aoR fun _ => ?_
  refine run ?_; refine aoR fun _ => ?_
  refine run ?_
  (apply wV; exact rfl; exact rfl; exact rfl; (exact ⟨_, _, rfl, by omega, rfl⟩); (exact ⟨_, _, rfl, by omega, rfl⟩); decide; decide)
  refine run ?_; rotate_left
  all_goals exact vM rfl rfl
 ·refine fnA Tryz.func128 Tryz.ntmps128 ?_
  refine run ?_; refine aoR fun _ => ?_
  refine run ?_; refine aoR fun _ => ?_
  refine run ?_
  (apply wV; exact rfl; exact rfl; exact rfl; (exact ⟨_, _, rfl, by omega, rfl⟩); (exact ⟨_, _, rfl, by omega, rfl⟩); decide; decide)
  refine run ?_; rotate_left
  all_goals exact vM rfl rfl
set_option maxHeartbeats 1000000 in
theorem mU {n : Int} (h : 0 ≤ n ∧ n ≤ 3) : Pure E.P 130 [.int .i64 n] (.bs (nameW n)) := by
 rcases (by omega : n = 0 ∨ n = 1 ∨ n = 2 ∨ n = 3) with rfl | rfl | rfl | rfl
 ·refine fnA Tryz.func130 Tryz.ntmps130 ?_
  refine run ?_; refine aoR fun _ => ?_
  refine run ?_; refine aoR fun _ => ?_
  refine run ?_
  (apply wV; exact rfl; exact rfl; exact rfl; (exact ⟨_, _, rfl, by omega, rfl⟩); (exact ⟨_, _, rfl, by omega, rfl⟩); decide; decide)
  refine run ?_; rotate_left
  all_goals exact vM rfl rfl
 ·refine fnA Tryz.func130 Tryz.ntmps130 ?_
  refine run ?_; refine aoR fun _ => ?_
  refine run ?_; refine aoR fun _ => ?_
  refine run ?_
  (apply wV; exact rfl; exact rfl; exact rfl; (exact ⟨_, _, rfl, by omega, rfl⟩); (exact ⟨_, _, rfl, by omega, rfl⟩); decide; decide)
  refine run ?_; rotate_left
  all_goals exact vM rfl rfl
 ·refine fnA Tryz.func130 Tryz.ntmps130 ?_
  refine run ?_; refine aoR fun _ => ?_
  refine run ?_; refine aoR fun _ => ?_
  refine run ?_
  (apply wV; exact rfl; exact rfl; exact rfl; (exact ⟨_, _, rfl, by omega, rfl⟩); (exact ⟨_, _, rfl, by omega, rfl⟩); decide; decide)
  refine run ?_; rotate_left
  all_goals exact vM rfl rfl
 ·refine fnA Tryz.func130 Tryz.ntmps130 ?_
  refine run ?_; refine aoR fun _ => ?_
  refine run ?_; refine aoR fun _ => ?_
  refine run ?_
  (apply wV; exact rfl; exact rfl; exact rfl; (exact ⟨_, _, rfl, by omega, rfl⟩); (exact ⟨_, _, rfl, by omega, rfl⟩); decide; decide)
  refine run ?_; rotate_left
  all_goals exact vM rfl rfl
abbrev strTV (v : Bt) : TV := .c (.string ⟨v.toArray⟩)
def setsTV : List TV := [strTV [], strTV [119], strTV [114], strTV [114, 119]]
set_option maxHeartbeats 1000000 in
theorem line1_p (s : Stp) (hr : 1 ≤ s.reg ∧ s.reg ≤ 4) (hv : 0 ≤ s.var ∧ s.var ≤ 3) : Pure E.P 129 [.d (.pt (stTV s) 0)] (.bs (regW s.reg ++ [32, 61, 32] ++ nameW s.var)) := by
 have c1 := lD hr
 have c2 := mU hv
 have l1 := yU s.reg
 have l2 := zD s.var
 refine fnA Tryz.func129 Tryz.ntmps129 ?_
 refine run ?_; refine aoR fun _ => ?_
 refine run ?_
 refine uG (E := E) ?_ (fun _ => ?_); exact rfl
 refine run ?_
 apply wC; exact rfl; exact .fn _ _ _; exact rfl; (exact c1)
 apply vK; exact rfl; exact rfl; (((simp only [List.length_append, List.length_cons, List.length_nil]); omega))
 refine run ?_
 apply wC; exact rfl; exact .fn _ _ _; exact rfl; (exact c2)
 apply vK; exact rfl; exact rfl; (((simp only [List.length_append, List.length_cons, List.length_nil]); omega))
 refine run ?_; rotate_left
 all_goals exact vM rfl rfl
set_option maxHeartbeats 1000000 in
theorem line2_p (s : Stp) (v : Bt) (hl : v.length ≤ 20) (hv : 0 ≤ s.var ∧ s.var ≤ 3) : Pure E.P 131 [.d (.pt (stTV s) 0), .d (.pt [strTV v] 0)] (.bs (nameW s.var ++ [32, 61, 32] ++ v)) := by
 have c2 := mU hv
 have l2 := zD s.var
 refine fnA Tryz.func131 Tryz.ntmps131 ?_
 refine run ?_; refine aoR fun _ => ?_
 refine run ?_
 refine uG (E := E) ?_ (fun _ => ?_); exact rfl
 refine run ?_
 apply wC; exact rfl; exact .fn _ _ _; exact rfl; (exact c2)
 apply vK; exact rfl; exact rfl; (((simp only [List.length_append, List.length_cons, List.length_nil]); omega))
 refine run ?_
 apply vK; exact rfl; exact rfl; (((simp only [List.length_append, List.length_cons, List.length_nil]); omega))
 refine run ?_; rotate_left
 all_goals exact vM rfl rfl
set_option maxHeartbeats 1000000 in
theorem line3_p (s : Stp) (v : Bt) (hl : v.length ≤ 20) (hr : 1 ≤ s.reg ∧ s.reg ≤ 4) (hv : 0 ≤ s.var ∧ s.var ≤ 3) : Pure E.P 132 [.d (.pt (stTV s) 0), .d (.pt [strTV v] 0)] (.bs (regW s.reg ++ [32, 61, 32, 115, 119, 97, 112, 32] ++ nameW s.var ++ [32] ++ v)) := by
 have c1 := lD hr
 have c2 := mU hv
 have l1 := yU s.reg
 have l2 := zD s.var
 refine fnA Tryz.func132 Tryz.ntmps132 ?_
 refine run ?_; refine aoR fun _ => ?_
 refine run ?_
 refine uG (E := E) ?_ (fun _ => ?_); exact rfl
 refine run ?_
 apply wC; exact rfl; exact .fn _ _ _; exact rfl; (exact c1)
 apply vK; exact rfl; exact rfl; (((simp only [List.length_append, List.length_cons, List.length_nil]); omega))
 refine run ?_
 apply wC; exact rfl; exact .fn _ _ _; exact rfl; (exact c2)
 iterate 2 (apply vK; exact rfl; exact rfl; (((simp only [List.length_append, List.length_cons, List.length_nil]); omega)))
 refine run ?_
 apply vK; exact rfl; exact rfl; (((simp only [List.length_append, List.length_cons, List.length_nil]); omega))
 refine run ?_; rotate_left
 all_goals exact vM rfl rfl
set_option maxHeartbeats 1000000 in
theorem line4_p (s : Stp) (v : Bt) (hl : v.length ≤ 20) (hr : 1 ≤ s.reg ∧ s.reg ≤ 4) (hv : 0 ≤ s.var ∧ s.var ≤ 3) : Pure E.P 133 [.d (.pt (stTV s) 0), .d (.pt [strTV v] 0)] (.bs (regW s.reg ++ [32, 61, 32, 97, 100, 100, 32] ++ nameW s.var ++ [32] ++ v)) := by
 have c1 := lD hr
 have c2 := mU hv
 have l1 := yU s.reg
 have l2 := zD s.var
 refine fnA Tryz.func133 Tryz.ntmps133 ?_
 refine run ?_; refine aoR fun _ => ?_
 refine run ?_
 refine uG (E := E) ?_ (fun _ => ?_); exact rfl
 refine run ?_
 apply wC; exact rfl; exact .fn _ _ _; exact rfl; (exact c1)
 apply vK; exact rfl; exact rfl; (((simp only [List.length_append, List.length_cons, List.length_nil]); omega))
 refine run ?_
 apply wC; exact rfl; exact .fn _ _ _; exact rfl; (exact c2)
 iterate 2 (apply vK; exact rfl; exact rfl; (((simp only [List.length_append, List.length_cons, List.length_nil]); omega)))
 refine run ?_
 apply vK; exact rfl; exact rfl; (((simp only [List.length_append, List.length_cons, List.length_nil]); omega))
 refine run ?_; rotate_left
 all_goals exact vM rfl rfl
def fenceTV (p q : Int) : List TV := [.c (.int .i64 5), .c (.int .i64 0), .c (.int .i64 0), .c (.int .u32 0), .c (.int .i64 0), .c (.int .i64 0), .c (.bool false), .c (.bool false), .c (.int .i64 p), .c (.int .i64 q)]
set_option maxHeartbeats 4000000 in
theorem line5_p (p q : Int) (hp : 1 ≤ p ∧ p ≤ 3) (hq : 1 ≤ q ∧ q ≤ 3) : Pure E.P 134 [.d (.pt setsTV 0), .d (.pt (fenceTV p q) 0)] (.bs ([102, 101, 110, 99, 101, 32] ++ setW p ++ [32] ++ setW q)) := by
 rcases (by omega : p = 1 ∨ p = 2 ∨ p = 3) with rfl | rfl | rfl
 ·rcases (by omega : q = 1 ∨ q = 2 ∨ q = 3) with rfl | rfl | rfl
  ·refine fnA Tryz.func134 Tryz.ntmps134 ?_
   refine run ?_; refine aoR fun _ => ?_
   refine run ?_
   refine uG (E := E) ?_ (fun _ => ?_); exact rfl
   refine run ?_
   iterate 2 (apply vK; exact rfl; exact rfl; (((simp only [List.length_append, List.length_cons, List.length_nil]); omega)))
   refine run ?_
   apply vK; exact rfl; exact rfl; (((simp only [List.length_append, List.length_cons, List.length_nil]); omega))
   refine run ?_; rotate_left
   all_goals exact vM rfl rfl
  ·refine fnA Tryz.func134 Tryz.ntmps134 ?_
   refine run ?_; refine aoR fun _ => ?_
   refine run ?_
   refine uG (E := E) ?_ (fun _ => ?_); exact rfl
   refine run ?_
   iterate 2 (apply vK; exact rfl; exact rfl; (((simp only [List.length_append, List.length_cons, List.length_nil]); omega)))
   refine run ?_
   apply vK; exact rfl; exact rfl; (((simp only [List.length_append, List.length_cons, List.length_nil]); omega))
   refine run ?_; rotate_left
   all_goals exact vM rfl rfl
  ·refine fnA Tryz.func134 Tryz.ntmps134 ?_
   refine run ?_; refine aoR fun _ => ?_
   refine run ?_
   refine uG (E := E) ?_ (fun _ => ?_); exact rfl
   refine run ?_
   iterate 2 (apply vK; exact rfl; exact rfl; (((simp only [List.length_append, List.length_cons, List.length_nil]); omega)))
   refine run ?_
   apply vK; exact rfl; exact rfl; (((simp only [List.length_append, List.length_cons, List.length_nil]); omega))
   refine run ?_; rotate_left
   all_goals exact vM rfl rfl
 ·rcases (by omega : q = 1 ∨ q = 2 ∨ q = 3) with rfl | rfl | rfl
  ·refine fnA Tryz.func134 Tryz.ntmps134 ?_
   refine run ?_; refine aoR fun _ => ?_
   refine run ?_
   refine uG (E := E) ?_ (fun _ => ?_); exact rfl
   refine run ?_
   iterate 2 (apply vK; exact rfl; exact rfl; (((simp only [List.length_append, List.length_cons, List.length_nil]); omega)))
   refine run ?_
   apply vK; exact rfl; exact rfl; (((simp only [List.length_append, List.length_cons, List.length_nil]); omega))
   refine run ?_; rotate_left
   all_goals exact vM rfl rfl
  ·refine fnA Tryz.func134 Tryz.ntmps134 ?_
   refine run ?_; refine aoR fun _ => ?_
   refine run ?_
   refine uG (E := E) ?_ (fun _ => ?_); exact rfl
   refine run ?_
   iterate 2 (apply vK; exact rfl; exact rfl; (((simp only [List.length_append, List.length_cons, List.length_nil]); omega)))
   refine run ?_
   apply vK; exact rfl; exact rfl; (((simp only [List.length_append, List.length_cons, List.length_nil]); omega))
   refine run ?_; rotate_left
   all_goals exact vM rfl rfl
  ·refine fnA Tryz.func134 Tryz.ntmps134 ?_
   refine run ?_; refine aoR fun _ => ?_
   refine run ?_
   refine uG (E := E) ?_ (fun _ => ?_); exact rfl
   refine run ?_
   iterate 2 (apply vK; exact rfl; exact rfl; (((simp only [List.length_append, List.length_cons, List.length_nil]); omega)))
   refine run ?_
   apply vK; exact rfl; exact rfl; (((simp only [List.length_append, List.length_cons, List.length_nil]); omega))
   refine run ?_; rotate_left
   all_goals exact vM rfl rfl
 ·rcases (by omega : q = 1 ∨ q = 2 ∨ q = 3) with rfl | rfl | rfl
  ·refine fnA Tryz.func134 Tryz.ntmps134 ?_
   refine run ?_; refine aoR fun _ => ?_
   refine run ?_
   refine uG (E := E) ?_ (fun _ => ?_); exact rfl
   refine run ?_
   iterate 2 (apply vK; exact rfl; exact rfl; (((simp only [List.length_append, List.length_cons, List.length_nil]); omega)))
   refine run ?_
   apply vK; exact rfl; exact rfl; (((simp only [List.length_append, List.length_cons, List.length_nil]); omega))
   refine run ?_; rotate_left
   all_goals exact vM rfl rfl
  ·refine fnA Tryz.func134 Tryz.ntmps134 ?_
   refine run ?_; refine aoR fun _ => ?_
   refine run ?_
   refine uG (E := E) ?_ (fun _ => ?_); exact rfl
   refine run ?_
   iterate 2 (apply vK; exact rfl; exact rfl; (((simp only [List.length_append, List.length_cons, List.length_nil]); omega)))
   refine run ?_
   apply vK; exact rfl; exact rfl; (((simp only [List.length_append, List.length_cons, List.length_nil]); omega))
   refine run ?_; rotate_left
   all_goals exact vM rfl rfl
  ·refine fnA Tryz.func134 Tryz.ntmps134 ?_
   refine run ?_; refine aoR fun _ => ?_
   refine run ?_
   refine uG (E := E) ?_ (fun _ => ?_); exact rfl
   refine run ?_
   iterate 2 (apply vK; exact rfl; exact rfl; (((simp only [List.length_append, List.length_cons, List.length_nil]); omega)))
   refine run ?_
   apply vK; exact rfl; exact rfl; (((simp only [List.length_append, List.length_cons, List.length_nil]); omega))
   refine run ?_; rotate_left
   all_goals exact vM rfl rfl
set_option maxHeartbeats 1000000 in
theorem line6_p (s : Stp) (hr : 1 ≤ s.reg ∧ s.reg ≤ 4) : Pure E.P 135 [.d (.pt (stTV s) 0)] (.bs ([105, 102, 32] ++ regW s.reg)) := by
 have c1 := lD hr
 have l1 := yU s.reg
 refine fnA Tryz.func135 Tryz.ntmps135 ?_
 refine run ?_; refine aoR fun _ => ?_
 refine run ?_; refine aoR fun _ => ?_
 refine run ?_
 apply uA; exact rfl; exact .fn _ _ _; exact rfl; (exact c1)
 apply kM; exact rfl; exact rfl; (((simp only [List.length_append, List.length_cons, List.length_nil]); omega))
 refine run ?_; rotate_left
 all_goals exact vM rfl rfl
section
open Go.RowKit Go.Maps Go.ChangeMaps
section
variable {P : Program} {v j : Nat} {tm : Tm} {σ : Store} {dst : Option Tmp} {ty : TypeId} {pos : String} {af : Array Edge} {gd : Option (Nat × Bool)}
def OpKJ (P : Program) (v j : Nat) (o : Oper) (tm : Tm) (σ : Store) (Jw : World → Prop) (K : OV → Store → Prop) : Prop :=
 ∀ (Γ : Ctx) (G : Gh) (ρ : Operand → Value) (w : World), Γ.N ≤ v → (∀ k, G.μ k (v, j) = none) → (∀ x ∈ o.op.operands, ∀ y, ev tm x = some y → RepO G y (ρ x)) → WRel Γ G σ w → Jw w →
  NextK P Γ G v j K ((execOp ρ o).run P w)
theorem OpKJ.ok {o : Oper} {Jw : World → Prop} {K : OV → Store → Prop} (hJw : ∀ (n : Nat) (C : Cx) (G : Gh) (a : Act) (w : World), SRel n C G tm σ a w → Jw w) (h : OpKJ P v j o tm σ Jw K) : OpOk P v j o tm σ K := fun n C G a w ro next Q hd hro hN hfr hs hk => by
 have hst := hs.w.startW (σ0 := σ) (fun _ _ e => e) C.Γ.N
 have h1 := h ⟨w, Blks G σ, G, C.Γ.N⟩ G a.eval w hN hfr (fun x _ y hy => xB hs.tm hy) hst (hJw n C G a w hs)
 have lv : ∀ x w', LeavesK ⟨w, Blks G σ, G, C.Γ.N⟩ G v j K x w' → next (a.put o.dst x) w' := fun x w' ⟨G', r, σ', g1, g2, g3, g4, g5⟩ => by
  refine hk C G' (tm.putO o.dst r) σ' _ w' (.refl C) g1 g2 ⟨by rw [Act.put_size, hs.size], by rw [Act.put_defers, hs.defers], (hs.tm.mono g1).put g3 o.dst (by rw [hs.size]; exact fun d e => (hd d e).1), hs.w.backX (fun _ _ e => e) g4 (Nat.le_refl _) (fun k τ r hr => Or.inr hr), fun b ob hb => ?_, hs.marks, fun i Y hi => ?_⟩ ⟨r, rfl, g5⟩
  ·obtain ⟨e1, e2⟩ := hs.fix b ob hb
   exact ⟨(g4.keep b (Array.getElem?_eq_some_iff.1 e1).1 (hs.fix.not_own hs.w hb)).trans e1, e2⟩
  ·obtain ⟨hJ, hJg, hJf⟩ := hs.gh i Y ((xQ hd r).symm.trans hi)
   refine ⟨Y.st i w w' hJ fun b hb => ?_, hJg.trans g1, hJf⟩
   obtain ⟨ob, e1, e2⟩ := Y.nc i w b hJ hb
   refine g4.keep b (Array.getElem?_eq_some_iff.1 e1).1 fun ⟨k, τ, r', β, f1, f2, f3⟩ => ?_
   obtain ⟨cs, f4, _⟩ := hs.w.blk f1 f2
   rw [f3, e1] at f4
   cases f4; cases e2
 have hsem : o.semAt ro a.eval = execOp a.eval o := by
  refine Oper.semAt_eq ro a.eval o fun c hc => ?_
  have e : execOp a.eval o = (do pure (.defer (← resolve a.eval c o.type)) : Sem Next) := by
   simp only [execOp, hc]
  rw [e] at h1
  simp only [Sem.run_bind] at h1
  cases hr : (resolve a.eval c o.type).run P w with
  | ok d w' => rw [hr] at h1; simp [NextK] at h1
  | halt x w' => rw [hr] at h1; simp [NextK] at h1
 unfold Oper.wpIn
 refine ⟨fun _ _ => trivial, ?_⟩
 rw [show (wideR ro).round = ro from rfl, hsem]
 generalize (execOp a.eval o).run P w = r at *
 cases r with
 | ok nx w' =>
  cases nx <;> simp only [NextK] at h1 <;> simp only [Oper.uponIn]
  case value x => exact lv _ _ h1
  case skip => exact lv _ _ h1
  case enter f args =>
   refine ⟨fun e => (by cases e), ?_⟩
   exact (show CallsIn (wideR ro) (0 - 1) P f args w' _ from callsIn_wide.2 (h1.mono fun e w'' ⟨x, h2, h3⟩ => by subst h2; exact lv _ _ h3))
 | halt x w' => simp only [NextK] at h1
end
section
variable {P : Program} {v j : Nat} {ops : Array Oper} {Q : Tm → Store → Prop} {rest : List Oper} {tm : Tm} {σ : Store} {dst : Option Tmp} {ty : TypeId} {pos : String} {af : Array Edge}
end
def Tm.sub (tx tm : Tm) : Prop := ∀ t y, tx t = some y → (t ≠ GS ∧ ∃ i Y, y = .gh i Y) ∨ tm t = some y
theorem SRel.sub {n : Nat} {C : Cx} {G : Gh} {tx : Tm} {a : Act} (hs : SRel n C G tm σ a w) (h : tx.sub tm) : SRel n C G tx σ a w :=
 ⟨hs.size, hs.defers, fun t y ht => by
  rcases h t y ht with ⟨_, i, Y, rfl⟩ | h1
  ·exact Or.inl ⟨i, Y, rfl⟩
  ·exact hs.tm t y h1, hs.w, hs.fix, hs.marks, fun i Y hi => by
  rcases h GS _ hi with ⟨h1, _⟩ | h1
  ·exact (h1 rfl).elim
  ·exact hs.gh i Y h1⟩
end
section
open Go.RowKit Go.Maps Go.ChangeMaps
def FE (M : Mem) : List (Value × TV) → List MapEntry → Prop
 | [], es => es = []
 | (k, t) :: L, es => ∃ v c es', es = ⟨k, v, c⟩ :: es' ∧ Rep M t v ∧ FE M L es'
theorem FE.mono {M' : Mem} (h : M.le M') : ∀ (L : List (Value × TV)) (es : List MapEntry), FE M L es → FE M' L es
 | [], _, e => e
 | (k, t) :: L, es, ⟨v, c, es', e1, e2, e3⟩ => ⟨v, c, es', e1, Rep.mono h t v e2, FE.mono h L es' e3⟩
theorem FE.snoc : ∀ {L : List (Value × TV)} {es : List MapEntry} {k v : Value} {t : TV} (c : Nat), FE M L es → Rep M t v → FE M (L ++ [(k, t)]) (es ++ [⟨k, v, c⟩])
 | [], _, k, v, t, c, rfl, h => ⟨v, c, [], rfl, h, rfl⟩
 | (k0, t0) :: L, _, k, v, t, c, ⟨v0, c0, es', rfl, e2, e3⟩, h => ⟨v0, c0, es' ++ [⟨k, v, c⟩], rfl, e2, FE.snoc c e3 h⟩
def lookV (kd : TypeDesc) (k : Value) : List (Value × TV) → Option (Option TV)
 | [] => some none
 | (k', t) :: L => match Instr.sameNow kd k k' with
  | some true => some (some t)
  | some false => lookV kd k L
  | none => none
theorem FE.find : ∀ {L : List (Value × TV)} {es : List MapEntry} {r : Option TV} (i : Nat), FE M L es → lookV kd k L = some r →
  match r with
  | none => Instr.findNow kd k es i = some none
  | some t => ∃ j v, Instr.findNow kd k es i = some (some (j, v)) ∧ Rep M t v
 | [], _, r, i, rfl, h => by cases h; rfl
 | (k0, t0) :: L, _, r, i, ⟨v0, c0, es', rfl, e2, e3⟩, h => by
  unfold lookV at h
  cases hs : Instr.sameNow kd k k0 with
  | none => rw [hs] at h; cases h
  | some b =>
   rw [hs] at h
   cases b with
   | true =>
    cases h
    exact ⟨i, v0, by simp [Instr.findNow, hs], e2⟩
   | false =>
    have := FE.find (i + 1) e3 h
    cases r with
    | none => simpa [Instr.findNow, hs] using this
    | some t => simpa [Instr.findNow, hs] using this
def fnmY (g : Gh) (b : Nat) (L : List (Value × TV)) : YJ where
 g := g
 J i w := ∃ es clock, w.heap[b]? = some (.map es clock) ∧ FE g.M L es.toList
 D x := x = b
 st i w w' := fun ⟨es, clock, h, r⟩ h' => ⟨es, clock, (h' b rfl).trans h, r⟩
 nc i w x := fun ⟨es, clock, h, _⟩ hx => ⟨.map es clock, by rw [show x = b from hx]; exact h, rfl⟩
inductive PKey (P : Program) (kt : TypeId) : TypeDesc → Value → Prop where
 | int {q : IntKind} {c : Int} (h : P.underlying kt = some (.int q)) : PKey P kt (.int q) (.int q c)
 | str {s : ByteArray} (h : P.underlying kt = some .string) : PKey P kt .string (.string s)
theorem PKey.desc (h : PKey P kt kd k) : P.underlying kt = some kd := by cases h <;> assumption
theorem PKey.check (h : PKey P kt kd k) (em : Bool) (w : World) : (Instr.checkKey em 10000 kt k).run P w = .ok () w := by
 cases h with
 | int h =>
  show (Instr.checkKey em (9999 + 1) kt _).run P w = _
  unfold Instr.checkKey
  simp only [Sem.run_bind, run_underlying h, Result.andThen_ok, Sem.run_pure]
 | str h =>
  show (Instr.checkKey em (9999 + 1) kt _).run P w = _
  unfold Instr.checkKey
  simp only [Sem.run_bind, run_underlying h, Result.andThen_ok, Sem.run_pure]
theorem zX {es : Array MapEntry} {c : Nat} (hb : w.heap[b]? = some (.map es c)) : (getObj b).run P w = .ok (.map es c) w := by
 simp [getObj, Sem.run, hb]
section
variable {P : Program} {v j : Nat} {tm : Tm} {σ : Store} {dst : Option Tmp} {ty : TypeId} {pos : String} {af : Array Edge} {gd : Option (Nat × Bool)}
theorem makeF_ok {T : TypeId} {K : Tm → Store → Prop} (hK : ∀ g b, K ((tm.putO dst (.d (.c (.map (some b))))).put GS (.gh 0 (fnmY g b []))) σ) :
  OpT P v j ⟨dst, .makeMap T none, ty, pos, af, gd⟩ tm σ K := fun n C G a w ro next Q hd hro hN hfr hs hk => by
 have old : ∀ b, b < w.heap.size → (w.alloc (.map #[] 0)).heap[b]? = w.heap[b]? := fun b hb => by
  show (w.heap.push _)[b]? = _
  rw [Array.getElem?_push_lt hb, Array.getElem?_eq_getElem hb]
 unfold Oper.wpIn
 refine ⟨fun _ _ => trivial, ?_⟩
 rw [show (wideR ro).round = ro from rfl, Oper.semAt_eq ro a.eval _ (fun c hc => by cases hc)]
 have hrun : (execOp a.eval ⟨dst, .makeMap T none, ty, pos, af, gd⟩).run P w = .ok (.value (.map (some w.heap.size))) (w.alloc (.map #[] 0)) := by
  simp [execOp, run_makeMap, Result.andThen]
 rw [hrun]
 have hsz : C.Γ.w0.heap.size ≤ w.heap.size := hs.w.size
 refine hk ⟨C.Γ, C.fix, C.defs, C.ro, C.base, fun b => C.dD b ∨ b = w.heap.size, fun b hb => hb.elim (C.dok b) fun e => Or.inl (by rw [e]; exact hsz), C.bok, C.d0⟩ G _ σ _ _ ⟨rfl, rfl, rfl, fun b h => Or.inl h, fun _ _ h => h, rfl⟩ (.refl G) (fun _ _ _ _ _ => rfl)
  ⟨by rw [Act.put_size, hs.size], by rw [Act.put_defers, hs.defers], fun t y ht => ?_, hs.w.allocNon _, fun b' ob' hb' => ?_, hs.marks, fun i2 Y2 hi => ?_⟩ (hK G w.heap.size)
 ·by_cases hn' : t = GS
  ·subst hn'
   rw [Tm.put_self] at ht
   exact Or.inl ⟨_, _, (Option.some.inj ht).symm⟩
  ·rw [Tm.put_ne _ _ hn'] at ht
   exact (hs.tm.mono (.refl G)).put (by rw [RepO, Rep]; exact ⟨rfl, rfl⟩) dst (by rw [hs.size]; exact fun d e => (hd d e).1) t y ht
 ·obtain ⟨q1, q2⟩ := hs.fix b' ob' hb'
  exact ⟨(old b' (Array.getElem?_eq_some_iff.1 q1).1).trans q1, q2⟩
 ·rw [Tm.put_self] at hi
  cases hi
  refine ⟨(show ∃ es clock, (w.alloc (.map #[] 0)).heap[w.heap.size]? = some (.map es clock) ∧ FE G.M [] es.toList from ⟨#[], 0, by show (w.heap.push _)[w.heap.size]? = _; simp, rfl⟩), (show G.le G from .refl G), fun b' ob' hb' hD' => ?_, fun b' hb' => Or.inr (show b' = w.heap.size from hb')⟩
  have := (Array.getElem?_eq_some_iff.1 (hs.fix b' ob' hb').1).1
  have h9 : b' = w.heap.size := hD'
  omega
theorem insF_ok {T e : TypeId} {K : Tm → Store → Prop} {m z : Operand} {i : Nat} {t : TV} (ho : o = ⟨dst, .insert T m x z, ty, pos, af, gd⟩ ∨ o = ⟨dst, .mapUpdate T m x z, ty, pos, af, gd⟩) (hT : P.underlying T = some (.map kt e)) (hm : ev tm m = some (.d (.c (.map (some b))))) (hx : ev tm x = some (.d (.c k))) (hk : PKey P kt kd k) (hz : ev tm z = some y) (hy : y.toTV = some t) (hg : tm GS = some (.gh i (fnmY g b L))) (hn : lookV kd k L = some none) (hK : ∀ g', K ((tm.putO dst .un).put GS (.gh 0 (fnmY g' b (L ++ [(k, t)])))) σ) : OpT P v j o tm σ K := fun n C G a w ro next Q hd hro hN hfr hs hkk => by
 have hdst : o.dst = dst := by rcases ho with rfl | rfl <;> rfl
 obtain ⟨⟨es, clock, hb, hE⟩, hJg, hJf1, hJf2⟩ := hs.gh i _ hg
 have hbD : (fnmY g b L).D b := rfl
 have hS : C.Γ.w0.heap.size ≤ b ∨ C.Γ.S b := C.dok b (hJf2 b hbD)
 have r1 := uT (xB hs.tm hm)
 have r2 := uT (xB hs.tm hx)
 have r3 : Rep G.M t (a.eval z) := OV.toTV_rep y t _ hy (xB hs.tm hz)
 have hf := FE.find 0 hE hn
 have hrun : (execOp a.eval o).run P w = .ok .skip (w.putObj b (.map (es.push ⟨k, a.eval z, clock⟩) (clock + 1))) := by
  have hu : (Instr.mapUpdate T (a.eval m) (a.eval x) (a.eval z)).run P w = .ok () (w.putObj b (.map (es.push ⟨k, a.eval z, clock⟩) (clock + 1))) := by
   have hfk : (Instr.findKey kt k es.toList).run P w = .ok none w := by
    simp only [Instr.findKey, Sem.run_bind, run_underlying hk.desc, Result.andThen_ok, hf, Sem.run_pure]
   have hset : (setObj b (.map (es.push ⟨k, a.eval z, clock⟩) (clock + 1))).run P w = .ok () (w.putObj b (.map (es.push ⟨k, a.eval z, clock⟩) (clock + 1))) := by
    simp [setObj, Sem.run, hb, World.putObj]
   simp only [Instr.mapUpdate, r1, r2, Sem.run_bind, run_underlying hT, Result.andThen_ok, zX hb, hk.check, hfk, hset]
  rcases ho with rfl | rfl <;> simp only [execOp, Sem.run_bind, hu, Result.andThen_ok, Sem.run_pure]
 have hE' : FE G.M (L ++ [(k, t)]) (es.push ⟨k, a.eval z, clock⟩).toList := by
  rw [Array.toList_push]
  exact FE.snoc clock (FE.mono hJg.1 L _ hE) r3
 have nx : next (a.put o.dst undef) (w.putObj b (.map (es.push ⟨k, a.eval z, clock⟩) (clock + 1))) := by
  rw [hdst]
  rw [hdst] at hd
  refine hkk C G _ σ _ _ (.refl C) (.refl G) (fun _ _ _ _ _ => rfl) ⟨by rw [Act.put_size, hs.size], by rw [Act.put_defers, hs.defers], fun t y ht => ?_, hs.w.putNon hb rfl hS, fun b' ob' hb' => ?_, hs.marks, fun i2 Y2 hi => ?_⟩ (hK G)
  ·by_cases hn' : t = GS
   ·subst hn'
    rw [Tm.put_self] at ht
    exact Or.inl ⟨_, _, (Option.some.inj ht).symm⟩
   ·rw [Tm.put_ne _ _ hn'] at ht
    exact (hs.tm.mono (.refl G)).put (mI G) dst (by rw [hs.size]; exact fun d e => (hd d e).1) t y ht
  ·obtain ⟨q1, q2⟩ := hs.fix b' ob' hb'
   exact ⟨(World.putObj_heap_other fun e => hJf1 b' ob' hb' (by rw [e]; exact hbD)).trans q1, q2⟩
  ·rw [Tm.put_self] at hi
   cases hi
   refine ⟨⟨_, _, World.putObj_heap_same (Array.getElem?_eq_some_iff.1 hb).1, hE'⟩, Gh.le.refl G, fun b' ob' hb' hD' => hJf1 b' ob' hb' hD', fun b' hb' => hJf2 b' hb'⟩
 unfold Oper.wpIn
 refine ⟨fun _ _ => trivial, ?_⟩
 rw [show (wideR ro).round = ro from rfl, Oper.semAt_eq ro a.eval o fun c hc => by rcases ho with rfl | rfl <;> cases hc]
 rw [hrun]; exact nx
theorem bL (hdf : ∀ c, o.op ≠ .defer c) (h : ∀ (n : Nat) (C : Cx) (G : Gh) (a : Act) (w : World), SRel n C G tm σ a w → ∃ x r, (execOp a.eval o).run P w = .ok (.value x) w ∧ RepO G r x ∧ K r σ) : OpOk P v j o tm σ K := fun n C G a w ro next Q hd hro hN hfr hs hkk => by
 obtain ⟨x, r, h1, h2, h3⟩ := h n C G a w hs
 unfold Oper.wpIn
 refine ⟨fun _ _ => trivial, ?_⟩
 rw [show (wideR ro).round = ro from rfl, Oper.semAt_eq ro a.eval o fun c hc => (hdf c hc).elim, h1]
 exact hkk C G (tm.putO o.dst r) σ _ w (.refl C) (.refl G) (fun _ _ _ _ _ => rfl) ⟨by rw [Act.put_size, hs.size], by rw [Act.put_defers, hs.defers], (hs.tm.mono (.refl G)).put h2 o.dst (by rw [hs.size]; exact fun d e => (hd d e).1), hs.w, hs.fix, hs.marks, fun i Y hi => hs.gh i Y ((xQ hd r).symm.trans hi)⟩ ⟨r, rfl, h3⟩
theorem lookF_ok {T e : TypeId} {m : Operand} {i : Nat} {t : TV} (hT : P.underlying T = some (.map kt e)) (hm : ev tm m = some (.d (.c (.map (some b))))) (hx : ev tm x = some (.d (.c k))) (hk : PKey P kt kd k) (hg : tm GS = some (.gh i (fnmY g b L))) (hn : lookV kd k L = some (some t)) (hK : K (.d t) σ) : OpOk P v j ⟨dst, .lookup T m x false, ty, pos, af, gd⟩ tm σ K := bL (fun c h => by cases h) fun n C G a w hs => by
 obtain ⟨⟨es, clock, hb, hE⟩, hJg, _⟩ := hs.gh i _ hg
 have r1 := uT (xB hs.tm hm)
 have r2 := uT (xB hs.tm hx)
 obtain ⟨q, u, hf, hu⟩ := FE.find 0 hE hn
 have hfk : (Instr.findKey kt k es.toList).run P w = .ok (some (q, u)) w := by
  simp only [Instr.findKey, Sem.run_bind, run_underlying hk.desc, Result.andThen_ok, hf, Sem.run_pure]
 exact ⟨u, .d t, by simp only [execOp, Instr.lookup, r1, r2, Sem.run_bind, run_underlying hT, Result.andThen_ok, zX hb, hk.check, hfk, Sem.run_pure]; rfl, by rw [RepO]; exact Rep.mono hJg.1 t u hu, hK⟩
theorem lookFok_ok {T e : TypeId} {m : Operand} {i : Nat} (hT : P.underlying T = some (.map kt e)) (hz : ∀ w, (zeroValue e).run P w = .ok .nilFunc w) (hm : ev tm m = some (.d (.c (.map (some b))))) (hx : ev tm x = some (.d (.c k))) (hk : PKey P kt kd k) (hg : tm GS = some (.gh i (fnmY g b L))) (hn : lookV kd k L = some r) (hK : K (.tu [.d (r.getD (.c .nilFunc)), .bool r.isSome]) σ) : OpOk P v j ⟨dst, .lookup T m x true, ty, pos, af, gd⟩ tm σ K := bL (fun c h => by cases h) fun n C G a w hs => by
 obtain ⟨⟨es, clock, hb, hE⟩, hJg, _⟩ := hs.gh i _ hg
 have r1 := uT (xB hs.tm hm)
 have r2 := uT (xB hs.tm hx)
 cases r with
 | none =>
  have hf := FE.find 0 hE hn
  have hfk : (Instr.findKey kt k es.toList).run P w = .ok none w := by
   simp only [Instr.findKey, Sem.run_bind, run_underlying hk.desc, Result.andThen_ok, hf, Sem.run_pure]
  refine ⟨.tuple #[.nilFunc, .bool false], _, by simp only [execOp, Instr.lookup, r1, r2, Sem.run_bind, run_underlying hT, Result.andThen_ok, zX hb, hk.check, hfk, hz, Sem.run_pure]; rfl, ?_, hK⟩
  rw [RepO]
  refine ⟨_, rfl, ?_⟩
  rw [RepOL]
  refine ⟨_, _, rfl, vO rfl, ?_⟩
  rw [RepOL]
  exact ⟨_, _, rfl, vO rfl, by rw [RepOL]⟩
 | some t =>
  obtain ⟨q, u, hf, hu⟩ := FE.find 0 hE hn
  have hfk : (Instr.findKey kt k es.toList).run P w = .ok (some (q, u)) w := by
   simp only [Instr.findKey, Sem.run_bind, run_underlying hk.desc, Result.andThen_ok, hf, Sem.run_pure]
  refine ⟨.tuple #[u, .bool true], _, by simp only [execOp, Instr.lookup, r1, r2, Sem.run_bind, run_underlying hT, Result.andThen_ok, zX hb, hk.check, hfk, Sem.run_pure]; rfl, ?_, hK⟩
  rw [RepO]
  refine ⟨_, rfl, ?_⟩
  rw [RepOL]
  refine ⟨_, _, rfl, by show RepO G (.d t) u; rw [RepO]; exact Rep.mono hJg.1 t u hu, ?_⟩
  rw [RepOL]
  exact ⟨_, _, rfl, vO rfl, by rw [RepOL]⟩
end
section
variable {P : Program} {v j : Nat} {ops : Array Oper} {Q : Tm → Store → Prop} {rest : List Oper} {tm : Tm} {σ : Store} {dst : Option Tmp} {ty : TypeId} {pos : String} {af : Array Edge}
theorem sF {T : TypeId} (h : ∀ g b, AO P v ops Q (j + 1) rest ((tm.putO dst (.d (.c (.map (some b))))).put GS (.gh 0 (fnmY g b []))) σ) : AO P v ops Q j (⟨dst, .makeMap T none, ty, pos, af, none⟩ :: rest) tm σ := ao_t (makeF_ok h)
theorem bH {T e : TypeId} {m z : Operand} {i : Nat} {t : TV} (hT : P.underlying T = some (.map kt e)) (hm : ev tm m = some (.d (.c (.map (some b))))) (hx : ev tm x = some (.d (.c k))) (hk : PKey P kt kd k) (hz : ev tm z = some y) (hy : y.toTV = some t) (hg : tm GS = some (.gh i (fnmY g b L))) (hn : lookV kd k L = some none) (h : ∀ g', AO P v ops Q (j + 1) rest ((tm.putO dst .un).put GS (.gh 0 (fnmY g' b (L ++ [(k, t)])))) σ) : AO P v ops Q j (⟨dst, .insert T m x z, ty, pos, af, none⟩ :: rest) tm σ := ao_t (insF_ok (Or.inl rfl) hT hm hx hk hz hy hg hn h)
theorem dI {T e : TypeId} {m : Operand} {i : Nat} {t : TV} (hT : P.underlying T = some (.map kt e)) (hm : ev tm m = some (.d (.c (.map (some b))))) (hx : ev tm x = some (.d (.c k))) (hk : PKey P kt kd k) (hg : tm GS = some (.gh i (fnmY g b L))) (hn : lookV kd k L = some (some t)) (h : AO P v ops Q (j + 1) rest (tm.putO dst (.d t)) σ) : AO P v ops Q j (⟨dst, .lookup T m x false, ty, pos, af, none⟩ :: rest) tm σ := mD (lookF_ok hT hm hx hk hg hn h)
theorem wX {T e : TypeId} {m : Operand} {i : Nat} (hT : P.underlying T = some (.map kt e)) (hz : ∀ w, (zeroValue e).run P w = .ok .nilFunc w) (hm : ev tm m = some (.d (.c (.map (some b))))) (hx : ev tm x = some (.d (.c k))) (hk : PKey P kt kd k) (hg : tm GS = some (.gh i (fnmY g b L))) (hn : lookV kd k L = some r) (h : AO P v ops Q (j + 1) rest (tm.putO dst (.tu [.d (r.getD (.c .nilFunc)), .bool r.isSome])) σ) : AO P v ops Q j (⟨dst, .lookup T m x true, ty, pos, af, none⟩ :: rest) tm σ := mD (lookFok_ok hT hz hm hx hk hg hn h)
end
end
set_option maxRecDepth 100000
section
open Go.RowKit Go.Lib
theorem zF (c : UInt8) : ∀ (ws vs : List Bt), ws ≠ [] → joinC c (ws ++ vs) = joinC c ws ++ (vs.map (c :: ·)).flatten
 | [], _, h => absurd rfl h
 | [w], [], _ => by simp [joinC]
 | [w], v :: vs, _ => by
  have ih := zF c [v] vs (by simp)
  rw [List.cons_append, List.nil_append] at ih
  show w ++ c :: joinC c (v :: vs) = _
  rw [ih]
  simp [joinC]
 | w :: u :: ws, vs, _ => by
  have ih := zF c (u :: ws) vs (by simp)
  rw [List.cons_append] at ih
  rw [List.cons_append, List.cons_append, joinC, ih, joinC]
  simp
def sufB (b : Int) (a r : Bool) : Bt := (if 0 < b then [32, 98, 121, 32] ++ regW b else []) ++ (if a then [32, 97, 113] else []) ++ (if r then [32, 114, 108] else [])
theorem eP (b : Int) (a r : Bool) : ((tailW b a r).map ((32 : UInt8) :: ·)).flatten = sufB b a r := by
 unfold tailW sufB
 by_cases h : 0 < b <;> cases a <;> cases r <;> simp [h, wBy, wAq, wRl]
def headB (s : Stp) : Bt :=
 if s.kind = 5 then [102, 101, 110, 99, 101, 32] ++ setW s.pred ++ [32] ++ setW s.succ
 else if s.kind = 6 then [105, 102, 32] ++ regW s.reg
 else if s.kind = 1 then regW s.reg ++ [32, 61, 32] ++ nameW s.var
 else if s.kind = 2 then nameW s.var ++ [32, 61, 32] ++ valW s.data s.num
 else if s.kind = 3 then regW s.reg ++ [32, 61, 32, 115, 119, 97, 112, 32] ++ nameW s.var ++ [32] ++ valW s.data s.num
 else regW s.reg ++ [32, 61, 32, 97, 100, 100, 32] ++ nameW s.var ++ [32] ++ valW s.data s.num
theorem line_eq {s : Stp} (h : s.right = true) : lineB s = headB s ++ sufB s.byr s.aq s.rl := by
 cases aI h with
 | fence p q hp hq => simp [lineB, wordsOf, headB, joinC, sufB, wFence]
 | cond n hn => simp [lineB, wordsOf, headB, joinC, sufB, wIf]
 | load r v b a l hr hv hb =>
  show joinC 32 ([regW r, wEq, nameW v] ++ tailW b a l) = (regW r ++ [32, 61, 32] ++ nameW v) ++ sufB b a l
  rw [zF 32 _ _ (by simp), eP]
  simp [joinC, wEq]
 | store v n d b a l hv hb hd h0 =>
  show joinC 32 ([nameW v, wEq, valW d n] ++ tailW b a l) = (nameW v ++ [32, 61, 32] ++ valW d n) ++ sufB b a l
  rw [zF 32 _ _ (by simp), eP]
  simp [joinC, wEq]
 | both k r v n d b a l hk hr hv hb hd h0 =>
  rcases hk with rfl | rfl
  ·show joinC 32 ([regW r, wEq, wSwap, nameW v, valW d n] ++ tailW b a l) = (regW r ++ [32, 61, 32, 115, 119, 97, 112, 32] ++ nameW v ++ [32] ++ valW d n) ++ sufB b a l
   rw [zF 32 _ _ (by simp), eP]
   simp [joinC, wEq, wSwap]
  ·show joinC 32 ([regW r, wEq, wAdd, nameW v, valW d n] ++ tailW b a l) = (regW r ++ [32, 61, 32, 97, 100, 100, 32] ++ nameW v ++ [32] ++ valW d n) ++ sufB b a l
   rw [zF 32 _ _ (by simp), eP]
   simp [joinC, wEq, wAdd]
theorem headB_len {s : Stp} (hn : s.n32) : (headB s).length ≤ 60 := by
 have l1 := yU s.reg
 have l2 := zD s.var
 have l3 := bI (d := s.data) hn
 have l4 := eT s.pred
 have l5 := eT s.succ
 unfold headB
 (repeat' split) <;> simp only [List.length_append, List.length_cons, List.length_nil] <;> omega
def headFs (s : Stp) : List (Value × TV) := [(.int .i64 1, .fn 129 [] [.pt (stTV s) 0]), (.int .i64 2, .fn 131 [] [.pt (stTV s) 0, .pt [strTV (valW s.data s.num)] 0]), (.int .i64 3, .fn 132 [] [.pt (stTV s) 0, .pt [strTV (valW s.data s.num)] 0]),
 (.int .i64 4, .fn 133 [] [.pt (stTV s) 0, .pt [strTV (valW s.data s.num)] 0]), (.int .i64 5, .fn 134 [] [.pt setsTV 0, .pt (stTV s) 0]), (.int .i64 6, .fn 135 [] [.pt (stTV s) 0])]
def sufN (b : Bt) (a r : Bool) : Nat → Bt
 | 0 => b
 | 1 => b ++ (if a then [32, 97, 113] else [])
 | _ => b ++ (if a then [32, 97, 113] else []) ++ (if r then [32, 114, 108] else [])
set_option maxHeartbeats 1000000 in
theorem sR : Pure E.P 81 [] (.ag (setsTV.map .d)) := by
 refine FnW.toR ?_
 refine yI (vs := [.cell 0 134]) Tryz.func81 (by decide) rfl Tryz.ntmps81 (Nat.le_of_ble_eq_true rfl) rfl ?_
 refine run ?_; refine aoR fun _ => ?_
 refine run ?_; refine aoR fun _ => ?_
 refine run ?_; rotate_left
 exact uAQ rfl rfl rfl rfl rfl rfl
set_option maxHeartbeats 4000000 in
theorem line_p (hF : ∀ n : Int, 0 ≤ n → n ≤ 18446744073709551615 → Pure E.P 127 [.int .u64 n, .int .i64 10] (.bs (decDigits n.toNat))) (s : Stp) (hr : s.right = true) (hn : s.n32) : Pure E.P 67 [stOV s] (.bs (lineB s)) := by
 have f1 : Frozen 1 := ⟨trivial⟩
 have hs := aI hr
 have hd : 0 ≤ s.data ∧ s.data ≤ 4 := by cases hs <;> simp <;> omega
 have hby : 0 ≤ s.byr ∧ s.byr ≤ 4 := by cases hs <;> simp <;> omega
 have ln := rU s.num.toNat (by have := hn.2; omega)
 have lv := bI (d := s.data) hn
 have lr := yU s.byr
 have lh := headB_len hn
 obtain ⟨n0, n1⟩ := hn
 have cF := hF s.num n0 (by omega)
 refine fnA Tryz.func67 Tryz.ntmps67 ?_
 refine vB (X := Unit) (fun _ => tmL [(1, .d (.pt (stTV s) 0))]) (fun _ => stL []) ?_ fun _ => ?_
 ·refine aoR fun _ => ?_
  refine run ?_; rotate_left
  exact wQ () leP leP
 refine vB (X := Stamp) (fun v => tmL [(1, .d (.pt (stTV s) 0)), (3, .lo 3 v 1 0 0)]) (fun v => stL [(3, (v, ⟨1, [[.bs (decDigits s.num.toNat)]]⟩))]) ?_ fun v1 => ?_
 ·refine aoR fun _ => ?_
  refine run ?_
  apply S_convU; exact rfl; exact rfl; exact rfl; exact rfl; exact rfl; omega
  apply uA; exact rfl; exact .fn _ _ _; exact rfl; exact cF
  refine run ?_; rotate_left
  rename_i u
  exact wQ (u, 4) leP leP
 refine vB (X := Stamp) (fun v => tmL [(1, .d (.pt (stTV s) 0)), (3, .lo 3 v 1 0 0)]) (fun v => stL [(3, (v, ⟨1, [[.bs (valW s.data s.num)]]⟩))]) ?_ fun v2 => ?_
 ·by_cases h0 : 0 < s.data
  ·have c2 := lD (n := s.data) ⟨by omega, hd.2⟩
   refine run ?_; refine aoR fun _ => ?_
   refine run ?_; refine cnd ?_ ?_
   refine uE fun _ => ?_; try omega
   refine aoR fun _ => ?_; refine run ?_
   apply uA; exact rfl; exact .fn _ _ _; exact rfl; exact c2
   refine run ?_; rotate_left
   refine uF fun _ => ?_; try omega
   exact wQ v1 leP (by repeat' (first | exact vP _ | exact uL _ | refine uO rfl ?_ | refine uS rfl ?_ | (refine vD rfl ?_ ?_; (rw [zJ _ h0]; rfl)) | (refine uR rfl ?_ ?_; (rw [zJ _ h0]; rfl)) | (refine uN rfl ?_ ?_; (rw [zJ _ h0]; rfl))))
   all_goals (exfalso; omega)
  ·have h1 : s.data = 0 := by omega
   refine run ?_; refine aoR fun _ => ?_
   refine run ?_; refine cnd ?_ ?_
   refine uE fun _ => ?_; try omega
   refine uF fun _ => ?_; try omega
   refine run ?_; rotate_left
   all_goals first | exact wQ v1 leP (by repeat' (first | exact vP _ | exact uL _ | refine uO rfl ?_ | refine uS rfl ?_ | (refine vD rfl ?_ ?_; (rw [h1]; rfl)) | (refine uR rfl ?_ ?_; (rw [h1]; rfl)) | (refine uN rfl ?_ ?_; (rw [h1]; rfl)))) | (exfalso; omega)
 refine xC 3 v2 1 [[strTV (valW s.data s.num)]] (tmL [(1, .d (.pt (stTV s) 0)), (3, .d (.pt [strTV (valW s.data s.num)] 0))]) (stL []) rfl (by repeat' (first | exact zS | exact xT | refine vN rfl (.same _) ?_ | refine vN rfl (.lo _ _ _ rfl) ?_)) xT ?_
 refine vB (X := Stamp) (fun v => tmL [(1, .d (.pt (stTV s) 0)), (3, .d (.pt [strTV (valW s.data s.num)] 0)), (4, .lo 4 v 4 0 0)]) (fun v => stL [(4, (v, ⟨4, [setsTV.map .d]⟩))]) ?_ fun v3 => ?_
 ·refine aoR fun _ => ?_
  apply uA; exact rfl; exact .fn _ _ _; exact rfl; exact sR
  refine run ?_; rotate_left
  rename_i u
  exact wQ (u, 1) leP leP
 refine xC 4 v3 4 [setsTV] (tmL [(1, .d (.pt (stTV s) 0)), (3, .d (.pt [strTV (valW s.data s.num)] 0)), (4, .d (.pt setsTV 0))]) (stL []) rfl (by repeat' (first | exact zS | exact xT | refine vN rfl (.same _) ?_ | refine vN rfl (.lo _ _ _ rfl) ?_)) xT ?_
 refine vB (X := Gh × Nat) (fun x => tmL [(1, .d (.pt (stTV s) 0)), (5, .d (.c (.map (some x.2)))), (GS, .gh 0 (fnmY x.1 x.2 (headFs s)))]) (fun v => stL []) ?_ fun x => ?_
 ·refine aoR fun _ => ?_
  refine sF ?_; intro _ _
  refine run ?_
  apply bH; exact Tryz.underlying188; exact rfl; exact rfl; exact .int Tryz.underlying45; exact rfl; exact rfl; exact rfl; exact rfl; intro _
  refine run ?_
  apply bH; exact Tryz.underlying188; exact rfl; exact rfl; exact .int Tryz.underlying45; exact rfl; exact rfl; exact rfl; exact rfl; intro _
  refine run ?_
  apply bH; exact Tryz.underlying188; exact rfl; exact rfl; exact .int Tryz.underlying45; exact rfl; exact rfl; exact rfl; exact rfl; intro _
  refine run ?_
  apply bH; exact Tryz.underlying188; exact rfl; exact rfl; exact .int Tryz.underlying45; exact rfl; exact rfl; exact rfl; exact rfl; intro _
  refine run ?_
  apply bH; exact Tryz.underlying188; exact rfl; exact rfl; exact .int Tryz.underlying45; exact rfl; exact rfl; exact rfl; exact rfl; intro _
  refine run ?_
  apply bH; exact Tryz.underlying188; exact rfl; exact rfl; exact .int Tryz.underlying45; exact rfl; exact rfl; exact rfl; exact rfl; intro _
  refine run ?_; rotate_left
  rename_i b _ _ _ _ _ g
  exact wQ (g, b) leP leP
 refine vB (X := Unit) (fun _ => tmL [(1, .d (.pt (stTV s) 0)), (6, .bs (headB s))]) (fun _ => stL []) ?_ fun _ => ?_
 ·cases hs with
  | fence p q hp hq =>
   have c := line5_p p q hp hq
   refine aoR fun _ => ?_; refine run ?_
   apply dI; exact Tryz.underlying188; exact rfl; exact rfl; exact .int Tryz.underlying45; exact rfl; exact rfl
   apply uA; exact rfl; exact .d _ _ _; exact rfl; exact c
   refine run ?_; rotate_left
   exact wQ () leP leP
  | cond n h =>
   have c := line6_p ⟨6, n, 0, 0, 0, 0, false, false, 0, 0⟩ h
   refine aoR fun _ => ?_; refine run ?_
   apply dI; exact Tryz.underlying188; exact rfl; exact rfl; exact .int Tryz.underlying45; exact rfl; exact rfl
   apply uA; exact rfl; exact .d _ _ _; exact rfl; exact c
   refine run ?_; rotate_left
   exact wQ () leP leP
  | load r v b a l h1 h2 h3 =>
   have c := line1_p ⟨1, r, v, 0, 0, b, a, l, 0, 0⟩ h1 h2
   refine aoR fun _ => ?_; refine run ?_
   apply dI; exact Tryz.underlying188; exact rfl; exact rfl; exact .int Tryz.underlying45; exact rfl; exact rfl
   apply uA; exact rfl; exact .d _ _ _; exact rfl; exact c
   refine run ?_; rotate_left
   exact wQ () leP leP
  | store v n d b a l h2 h3 h4 h5 =>
   have c := line2_p ⟨2, 0, v, n, d, b, a, l, 0, 0⟩ _ lv h2
   refine aoR fun _ => ?_; refine run ?_
   apply dI; exact Tryz.underlying188; exact rfl; exact rfl; exact .int Tryz.underlying45; exact rfl; exact rfl
   apply uA; exact rfl; exact .d _ _ _; exact rfl; exact c
   refine run ?_; rotate_left
   exact wQ () leP leP
  | both k r v n d b a l hk h1 h2 h3 h4 h5 =>
   rcases hk with rfl | rfl
   ·have c := line3_p ⟨3, r, v, n, d, b, a, l, 0, 0⟩ _ lv h1 h2
    refine aoR fun _ => ?_; refine run ?_
    apply dI; exact Tryz.underlying188; exact rfl; exact rfl; exact .int Tryz.underlying45; exact rfl; exact rfl
    apply uA; exact rfl; exact .d _ _ _; exact rfl; exact c
    refine run ?_; rotate_left
    exact wQ () leP leP
   ·have c := line4_p ⟨4, r, v, n, d, b, a, l, 0, 0⟩ _ lv h1 h2
    refine aoR fun _ => ?_; refine run ?_
    apply dI; exact Tryz.underlying188; exact rfl; exact rfl; exact .int Tryz.underlying45; exact rfl; exact rfl
    apply uA; exact rfl; exact .d _ _ _; exact rfl; exact c
    refine run ?_; rotate_left
    exact wQ () leP leP
 have hB : (if 0 < s.byr then [32, 98, 121, 32] ++ regW s.byr else []).length ≤ 6 := by split <;> simp [lr]
 refine vB (X := Unit) (fun _ => tmL [(1, .d (.pt (stTV s) 0)), (6, .bs (headB s ++ (if 0 < s.byr then [32, 98, 121, 32] ++ regW s.byr else [])))]) (fun _ => stL []) ?_ fun _ => ?_
 ·by_cases h0 : 0 < s.byr
  ·have c := lD (n := s.byr) ⟨by omega, hby.2⟩
   rw [if_pos h0]
   refine run ?_; refine aoR fun _ => ?_
   refine run ?_; refine cnd ?_ ?_
   refine uE fun _ => ?_; try omega
   refine aoR fun _ => ?_; refine run ?_
   apply uA; exact rfl; exact .fn _ _ _; exact rfl; exact c
   iterate 2 (apply kM; exact rfl; exact rfl; (((simp only [List.length_append, List.length_cons, List.length_nil]); omega)))
   refine run ?_; rotate_left
   refine uF fun _ => ?_; try omega
   all_goals first | exact wQ () leP leP | (exfalso; omega)
  ·rw [if_neg h0, List.append_nil]
   refine run ?_; refine aoR fun _ => ?_
   refine run ?_; refine cnd ?_ ?_
   refine uE fun _ => ?_; try omega
   refine uF fun _ => ?_; try omega
   refine run ?_; rotate_left
   all_goals first | exact wQ () leP leP | (exfalso; omega)
 rw [line_eq hr]
 unfold sufB
 rw [← List.append_assoc, ← List.append_assoc]
 generalize hb : headB s ++ (if 0 < s.byr then [32, 98, 121, 32] ++ regW s.byr else []) = base
 have hbl : base.length ≤ 66 := by rw [← hb, List.length_append]; omega
 have f8 : Frozen 8 := ⟨trivial⟩
 refine run ?_; refine aoR fun _ => ?_
 refine run ?_; rotate_left
 rename_i u
 refine vA (X := Nat) (fun i => tmL [(6, .bs (sufN base s.aq s.rl i)), (48, .os 48 (u, 6) 2 2), (49, .int .i64 2), (50, .int .i64 i)]) (fun _ => stL [(48, ((u, 6), ⟨2, [[.bool s.aq, .bs [32, 97, 113]], [.bool s.rl, .bs [32, 114, 108]]]⟩))]) (fun i => i ≤ 2) (fun i => 2 - i) 0 (by omega) leP leP ?_
 intro i hi
 have hS : ∀ a r i, (sufN base a r i).length ≤ 74 := fun a r i => by
  rcases i with _ | _ | i <;> cases a <;> cases r <;> simp [sufN] <;> omega
 rcases (by omega : i = 0 ∨ i = 1 ∨ i = 2) with rfl | rfl | rfl
 ·cases haq : s.aq with
  | true =>
   have l0 := hS true s.rl 0
   refine run ?_; refine aoR fun _ => ?_
   refine run ?_; refine cnd ?_ ?_
   refine uE fun _ => ?_; try omega
   refine run ?_; refine aoR fun _ => ?_
   refine run ?_; refine aoR fun _ => ?_
   refine run ?_; refine cnd ?_ ?_; refine uJ ?_; refine aoR fun _ => ?_
   refine run ?_
   apply kM; exact rfl; exact rfl; (((simp only [List.length_append, List.length_cons, List.length_nil]); omega))
   refine run ?_; refine aoR fun _ => ?_
   refine run ?_; rotate_left
   exact uM
   refine uF fun _ => ?_; try omega
   all_goals first | exact uU 1 (by omega) (by omega) leP leP | (exfalso; omega)
  | false =>
   have e : sufN base false s.rl 1 = sufN base false s.rl 0 := by simp [sufN]
   refine run ?_; refine aoR fun _ => ?_
   refine run ?_; refine cnd ?_ ?_
   refine uE fun _ => ?_; try omega
   refine run ?_; refine aoR fun _ => ?_
   refine run ?_; refine aoR fun _ => ?_
   refine run ?_; refine cnd ?_ ?_
   exact vS
   refine vH ?_; refine run ?_; refine aoR fun _ => ?_
   refine run ?_; rotate_left
   refine uF fun _ => ?_; try omega
   all_goals first | exact uU 1 (by omega) (by omega) (by rw [e]; exact leP) leP | (exfalso; omega)
 ·cases hrl : s.rl with
  | true =>
   have l0 := hS s.aq true 1
   refine run ?_; refine aoR fun _ => ?_
   refine run ?_; refine cnd ?_ ?_
   refine uE fun _ => ?_; try omega
   refine run ?_; refine aoR fun _ => ?_
   refine run ?_; refine aoR fun _ => ?_
   refine run ?_; refine cnd ?_ ?_; refine uJ ?_; refine aoR fun _ => ?_
   refine run ?_
   apply kM; exact rfl; exact rfl; (((simp only [List.length_append, List.length_cons, List.length_nil]); omega))
   refine run ?_; refine aoR fun _ => ?_
   refine run ?_; rotate_left
   exact uM
   refine uF fun _ => ?_; try omega
   all_goals first | exact uU 2 (by omega) (by omega) leP leP | (exfalso; omega)
  | false =>
   have e : sufN base s.aq false 2 = sufN base s.aq false 1 := by simp [sufN]
   refine run ?_; refine aoR fun _ => ?_
   refine run ?_; refine cnd ?_ ?_
   refine uE fun _ => ?_; try omega
   refine run ?_; refine aoR fun _ => ?_
   refine run ?_; refine aoR fun _ => ?_
   refine run ?_; refine cnd ?_ ?_
   exact vS
   refine vH ?_; refine run ?_; refine aoR fun _ => ?_
   refine run ?_; rotate_left
   refine uF fun _ => ?_; try omega
   all_goals first | exact uU 2 (by omega) (by omega) (by rw [e]; exact leP) leP | (exfalso; omega)
 ·refine run ?_
  refine aoR fun _ => ?_; refine run ?_
  refine cnd ?_ ?_
  refine uE fun _ => ?_; try omega
  refine uF fun _ => ?_; try omega
  refine run ?_; refine aoR fun _ => ?_
  refine run ?_; rotate_left
  all_goals first | exact vM rfl rfl | (exfalso; omega)
end
set_option maxRecDepth 100000
section
open Go.RowKit Go.Lib
theorem sL {t u v : Nat} {r s q : OV} (ht : tm t = some r) (hu : tm u = some s) (hv : tm v = some q) (hR : R (.tu [r, s, q]) σ) : DoneN E [.tmp t, .tmp u, .tmp v] R .ret tm σ :=
 ⟨_, ⟨_, _, rfl, ht, _, _, rfl, hu, _, _, rfl, hv, rfl⟩, hR⟩
theorem index_p (s : Bt) (c : UInt8) : Pure E.P 137 [.bs s, .bs [c]] (.int .i64 (indexByte s c)) := iV ⟨_, Tryz.func137, by decide, rfl⟩ rfl fun G w vs hr hm => by
 rw [RepOL] at hr
 obtain ⟨v, us, rfl, r0, hr⟩ := hr
 rw [RepOL] at hr
 obtain ⟨v2, us, rfl, r2, hr⟩ := hr
 rw [RepOL] at hr
 subst hr
 rw [uT r0, uT r2]
 have := Tryz.stringslite_Index_one ⟨s.toArray⟩ c w
 refine this.mono fun e w' ⟨h1, h2⟩ => ⟨h1, ?_⟩
 subst h2
 exact Below.refl _ _
theorem iG {c : UInt8} : ∀ {s : Bt}, indexByte s c < 0 → cutC c s = (s, [], false) ∧ indexByte s c = -1
 | [], _ => ⟨rfl, rfl⟩
 | x :: l, h => by
  unfold indexByte at h ⊢
  by_cases hx : x = c
  ·rw [if_pos (by simp [hx])] at h; omega
  ·rw [if_neg (by simp [hx])] at h ⊢
   by_cases hn : indexByte l c = -1
   ·rw [if_pos (by simp [hn])]
    have := (iG (c := c) (s := l) (by omega)).1
    exact ⟨by rw [cutC, if_neg hx, this], rfl⟩
   ·rw [if_neg (by simp [hn])] at h
    exact absurd (iG (c := c) (s := l) (by omega)).2 hn
theorem pH {c : UInt8} : ∀ {s : Bt}, 0 ≤ indexByte s c → indexByte s c < s.length ∧ cutC c s = (s.take (indexByte s c).toNat, s.drop ((indexByte s c).toNat + 1), true)
 | [], h => by simp [indexByte] at h
 | x :: l, h => by
  unfold indexByte at h ⊢
  by_cases hx : x = c
  ·rw [if_pos (by simp [hx])]
   refine ⟨by simp, ?_⟩
   rw [cutC, if_pos hx]; rfl
  ·rw [if_neg (by simp [hx])] at h ⊢
   by_cases hn : indexByte l c = -1
   ·rw [if_pos (by simp [hn])] at h; omega
   ·rw [if_neg (by simp [hn])] at h ⊢
    have h0 : 0 ≤ indexByte l c := by
     by_cases hh : indexByte l c < 0
     ·exact absurd (iG hh).2 hn
     ·omega
    obtain ⟨g1, g2⟩ := pH (c := c) (s := l) h0
    refine ⟨by simp only [List.length_cons]; omega, ?_⟩
    have e : (indexByte l c + 1).toNat = (indexByte l c).toNat + 1 := by omega
    rw [cutC, if_neg hx, g2, e]; rfl
set_option maxHeartbeats 4000000 in
theorem slcut_p (s : Bt) (c : UInt8) (hl : s.length ≤ 1152921504606846976) : Pure E.P 78 [.bs s, .bs [c]] (.tu [.bs (cutC c s).1, .bs (cutC c s).2.1, .bool (cutC c s).2.2]) := by
 have c1 := index_p s c
 refine FnW.toR ?_
 refine yI (vs := [.tmp 4, .tmp 5, .tmp 6]) Tryz.func78 (by decide) rfl Tryz.ntmps78 (Nat.le_of_ble_eq_true rfl) rfl ?_
 by_cases h : indexByte s c < 0
 ·rw [(iG h).1]
  refine run ?_; refine aoR fun _ => ?_
  refine run ?_; refine aoR fun _ => ?_
  refine run ?_
  apply uA; exact rfl; exact .fn _ _ _; exact rfl; exact c1
  refine run ?_; refine aoR fun _ => ?_
  refine run ?_; refine cnd ?_ ?_
  refine uE fun _ => ?_; try omega
  refine uF fun _ => ?_; try omega
  refine run ?_; refine aoR fun _ => ?_
  refine run ?_; rotate_left
  all_goals exact sL rfl rfl rfl rfl
 ·obtain ⟨g1, g2⟩ := pH (c := c) (s := s) (by omega)
  have hc1 : (([c] : Bt).length : Int) = 1 := rfl
  rw [g2]
  refine run ?_; refine aoR fun _ => ?_
  refine run ?_; refine aoR fun _ => ?_
  refine run ?_
  apply uA; exact rfl; exact .fn _ _ _; exact rfl; exact c1
  refine run ?_; refine aoR fun _ => ?_
  refine run ?_; refine cnd ?_ ?_
  refine uE fun _ => ?_; try omega
  refine run ?_
  refine uG (E := E) ?_ (fun _ => ?_); exact rfl
  refine run ?_
  (apply kN; exact rfl; exact rfl; exact rfl; exact rfl; (exact ⟨_, _, rfl, by omega, rfl⟩); omega; omega)
  refine run ?_
  apply uAH; exact rfl; exact rfl; exact rfl
  refine run ?_
  (apply kN; exact rfl; exact rfl; exact rfl; (exact ⟨_, _, rfl, by omega, rfl⟩); exact rfl; omega; omega)
  refine run ?_; rotate_left
  refine uF fun _ => ?_; try omega
  have e1 : (indexByte s c + 1).toNat = (indexByte s c).toNat + 1 := by omega
  refine sL rfl rfl rfl ?_
  simp [e1]
  exact List.take_of_length_le (by simp)
set_option maxHeartbeats 4000000 in
theorem uAP (s : Bt) (c : UInt8) (hl : s.length ≤ 1152921504606846976) : Pure E.P 37 [.bs s, .bs [c]] (.tu [.bs (cutC c s).1, .bs (cutC c s).2.1, .bool (cutC c s).2.2]) := by
 have c1 := slcut_p s c hl
 refine FnW.toR ?_
 refine yI (vs := [.tmp 4, .tmp 5, .tmp 6]) Tryz.func37 (by decide) rfl Tryz.ntmps37 (Nat.le_of_ble_eq_true rfl) rfl ?_
 refine run ?_; refine aoR fun _ => ?_
 refine run ?_; refine aoR fun _ => ?_
 refine run ?_
 apply uA; exact rfl; exact .fn _ _ _; exact rfl; exact c1
 refine run ?_; rotate_left
 all_goals exact sL rfl rfl rfl rfl
end
structure Over where
 n : Nat
 os : Array Obj
 deriving Inhabited
def over (w : World) (p : Over) : World := { w with drawn := p.n, heap := w.heap ++ p.os }
structure Sl where
 a : Option Addr
 n : Nat
 c : Nat
 deriving Inhabited
variable {s : Sl}
def Sl.v (s : Sl) : Value := .slice s.a s.n s.c
structure Ev where
 hart : Int
 kind : Int
 addr : Int
 val : Int
 rval : Int
 aq : Bool
 rl : Bool
 pred : Int
 succ : Int
 rsv : Bool
 av : Sl
 dv : Sl
 cv : Sl
 addrs : List Int
 datas : List Int
 ctrls : List Int
 deriving Inhabited
variable {e : Ev} {es : List Ev}
def Ev.cells (e : Ev) : List Value := [.int .i64 e.hart, .int .i64 e.kind, .int .u32 e.addr, .int .u32 e.val, .int .u32 e.rval, .bool e.aq, .bool e.rl, .int .i64 e.pred, .int .i64 e.succ, .bool e.rsv, .slice e.av.a e.av.n e.av.c, .slice e.dv.a e.dv.n e.dv.c, .slice e.cv.a e.cv.n e.cv.c]
def Ev.agg (e : Ev) : Value := .agg #[.int .i64 e.hart, .int .i64 e.kind, .int .u32 e.addr, .int .u32 e.val, .int .u32 e.rval, .bool e.aq, .bool e.rl, .int .i64 e.pred, .int .i64 e.succ, .bool e.rsv, .slice e.av.a e.av.n e.av.c, .slice e.dv.a e.dv.n e.dv.c, .slice e.cv.a e.cv.n e.cv.c]
def Ev.small (e : Ev) : Prop := e.av.n ≤ 1152921504606846976 ∧ e.dv.n ≤ 1152921504606846976 ∧ e.cv.n ≤ 1152921504606846976
def IntsIn (q : IntKind) (B : Nat) (w : World) (s : Sl) (xs : List Int) : Prop :=
 s.n = xs.length ∧ xs.length ≤ 1152921504606846976 ∧
 (xs = [] ∨ ∃ b off, s.a = some ⟨b, off, none⟩ ∧ b < B ∧ ∀ k, k < xs.length → w.cell? ⟨b, off + k, none⟩ = some (.int q (xs.getD k 0)))
theorem IntsIn.below (h : IntsIn q B w s xs) (hb : Below B w w') : IntsIn q B w' s xs := by
 obtain ⟨h1, h2, h3⟩ := h
 refine ⟨h1, h2, ?_⟩
 rcases h3 with h3 | ⟨b, off, h4, h5, h6⟩
 ·exact Or.inl h3
 ·exact Or.inr ⟨b, off, h4, h5, fun k hk => by rw [hb.cell (by exact h5)]; exact h6 k hk⟩
theorem IntsIn.mono {B' : Nat} (h : IntsIn q B w s xs) (hB : B ≤ B') : IntsIn q B' w s xs := by
 obtain ⟨h1, h2, h3⟩ := h
 refine ⟨h1, h2, ?_⟩
 rcases h3 with h3 | ⟨b, off, h4, h5, h6⟩
 ·exact Or.inl h3
 ·exact Or.inr ⟨b, off, h4, by omega, h6⟩
def Ev.wf (e : Ev) : Prop := (-9223372036854775808 ≤ e.hart ∧ e.hart ≤ 9223372036854775807) ∧ (-9223372036854775808 ≤ e.kind ∧ e.kind ≤ 9223372036854775807) ∧ (0 ≤ e.addr ∧ e.addr < 4294967296) ∧ (0 ≤ e.val ∧ e.val < 4294967296) ∧
 (0 ≤ e.rval ∧ e.rval < 4294967296) ∧ (-9223372036854775808 ≤ e.pred ∧ e.pred ≤ 9223372036854775807) ∧ (-9223372036854775808 ≤ e.succ ∧ e.succ ≤ 9223372036854775807)
def Ev.okIn (B : Nat) (w : World) (e : Ev) : Prop :=
 IntsIn .i64 B w e.av e.addrs ∧ IntsIn .i64 B w e.dv e.datas ∧ IntsIn .i64 B w e.cv e.ctrls ∧ e.wf
theorem Ev.okIn.below (h : e.okIn B w) (hb : Below B w w') : e.okIn B w' := ⟨h.1.below hb, h.2.1.below hb, h.2.2.1.below hb, h.2.2.2⟩
theorem Ev.okIn.small (h : e.okIn B w) : e.small := by
 obtain ⟨⟨a1, a2, _⟩, ⟨b1, b2, _⟩, ⟨c1, c2, _⟩, _⟩ := h
 exact ⟨by omega, by omega, by omega⟩
def EvCells (w : World) (b o : Nat) (e : Ev) : Prop := w.cell? ⟨b, o, none⟩ = some (Value.int IntKind.i64 e.hart) ∧ w.cell? ⟨b, o + 1, none⟩ = some (Value.int IntKind.i64 e.kind) ∧ w.cell? ⟨b, o + 2, none⟩ = some (Value.int IntKind.u32 e.addr) ∧ w.cell? ⟨b, o + 3, none⟩ = some (Value.int IntKind.u32 e.val) ∧ w.cell? ⟨b, o + 4, none⟩ = some (Value.int IntKind.u32 e.rval) ∧ w.cell? ⟨b, o + 5, none⟩ = some (Value.bool e.aq) ∧ w.cell? ⟨b, o + 6, none⟩ = some (Value.bool e.rl) ∧ w.cell? ⟨b, o + 7, none⟩ = some (Value.int IntKind.i64 e.pred) ∧ w.cell? ⟨b, o + 8, none⟩ = some (Value.int IntKind.i64 e.succ) ∧ w.cell? ⟨b, o + 9, none⟩ = some (Value.bool e.rsv) ∧ w.cell? ⟨b, o + 10, none⟩ = some (Value.slice e.av.a e.av.n e.av.c) ∧ w.cell? ⟨b, o + 11, none⟩ = some (Value.slice e.dv.a e.dv.n e.dv.c) ∧ w.cell? ⟨b, o + 12, none⟩ = some (Value.slice e.cv.a e.cv.n e.cv.c)
def EvsIn (B : Nat) (w : World) (s : Sl) (es : List Ev) : Prop :=
 s.n = es.length ∧ es.length ≤ 1152921504606846976 ∧ (∀ e ∈ es, e.okIn B w) ∧
 (es = [] ∨ ∃ b off, s.a = some ⟨b, off, none⟩ ∧ b < B ∧ ∀ k, k < es.length → EvCells w b (off + k * 13) (es.getD k default))
theorem EvCells.below {o : Nat} (h : EvCells w b o e) (hb : Below B w w') (hB : b < B) : EvCells w' b o e := by
 unfold EvCells at *
 simp only [show ∀ j, w'.cell? ⟨b, j, none⟩ = w.cell? ⟨b, j, none⟩ from fun j => hb.cell (p := ⟨b, j, none⟩) hB]
 exact h
theorem EvsIn.below (h : EvsIn B w s es) (hb : Below B w w') : EvsIn B w' s es := by
 obtain ⟨h1, h2, h3, h4⟩ := h
 refine ⟨h1, h2, fun e he => (h3 e he).below hb, ?_⟩
 rcases h4 with h4 | ⟨b, off, h4, h5, h6⟩
 ·exact Or.inl h4
 ·exact Or.inr ⟨b, off, h4, h5, fun k hk => (h6 k hk).below hb h5⟩
theorem EvsIn.mono {B' : Nat} (h : EvsIn B w s es) (hB : B ≤ B') : EvsIn B' w s es := by
 obtain ⟨h1, h2, h3, h4⟩ := h
 refine ⟨h1, h2, fun e he => ⟨(h3 e he).1.mono hB, (h3 e he).2.1.mono hB, (h3 e he).2.2.1.mono hB, (h3 e he).2.2.2⟩, ?_⟩
 rcases h4 with h4 | ⟨b, off, h4, h5, h6⟩
 ·exact Or.inl h4
 ·exact Or.inr ⟨b, off, h4, by omega, h6⟩
def RowsIn (B : Nat) (w : World) (s : Sl) (rows : List (Sl × List Int)) : Prop :=
 s.n = rows.length ∧ rows.length ≤ 1152921504606846976 ∧ (∀ r ∈ rows, IntsIn .i64 B w r.1 r.2) ∧
 (rows = [] ∨ ∃ b off, s.a = some ⟨b, off, none⟩ ∧ b < B ∧ ∀ k, k < rows.length → w.cell? ⟨b, off + k, none⟩ = some (rows.getD k default).1.v)
theorem RowsIn.below {rows : List (Sl × List Int)} (h : RowsIn B w s rows) (hb : Below B w w') : RowsIn B w' s rows := by
 obtain ⟨h1, h2, h3, h4⟩ := h
 refine ⟨h1, h2, fun e he => (h3 e he).below hb, ?_⟩
 rcases h4 with h4 | ⟨b, off, h4, h5, h6⟩
 ·exact Or.inl h4
 ·exact Or.inr ⟨b, off, h4, h5, fun k hk => by rw [hb.cell (by exact h5)]; exact h6 k hk⟩
structure Ex where
 es : Sl
 fs : Sl
 os : Sl
 evs : List Ev
 from_ : List Int
 order : List (Sl × List Int)
 deriving Inhabited
def Ex.agg (x : Ex) : Value := .agg #[.slice x.es.a x.es.n x.es.c, .slice x.fs.a x.fs.n x.fs.c, .slice x.os.a x.os.n x.os.c]
def Ex.inW (B : Nat) (w : World) (x : Ex) : Prop := EvsIn B w x.es x.evs ∧ IntsIn .i64 B w x.fs x.from_ ∧ RowsIn B w x.os x.order
theorem Ex.inW.below {x : Ex} (h : x.inW B w) (hb : Below B w w') : x.inW B w' := ⟨h.1.below hb, h.2.1.below hb, h.2.2.below hb⟩
def PairsZ (B : Nat) (w : World) (s : Sl) (l : List (Int × Int)) : Prop :=
 s.n = l.length ∧ l.length ≤ 1152921504606846976 ∧
 (l = [] ∨ ∃ b off, s.a = some ⟨b, off, none⟩ ∧ b < B ∧ ∀ k, k < l.length → w.cell? ⟨b, off + k * 2, none⟩ = some (.int .i64 (l.getD k (0, 0)).1) ∧ w.cell? ⟨b, off + k * 2 + 1, none⟩ = some (.int .i64 (l.getD k (0, 0)).2))
theorem PairsZ.below (h : PairsZ B w s l) (hb : Below B w w') : PairsZ B w' s l := by
 obtain ⟨h1, h2, h3⟩ := h
 refine ⟨h1, h2, ?_⟩
 rcases h3 with h3 | ⟨b, off, h4, h5, h6⟩
 ·exact Or.inl h3
 ·exact Or.inr ⟨b, off, h4, h5, fun k hk => by rw [hb.cell (by exact h5), hb.cell (by exact h5)]; exact h6 k hk⟩
theorem PairsZ.mono {B' : Nat} (h : PairsZ B w s l) (hB : B ≤ B') : PairsZ B' w s l := by
 obtain ⟨h1, h2, h3⟩ := h
 refine ⟨h1, h2, ?_⟩
 rcases h3 with h3 | ⟨b, off, h4, h5, h6⟩
 ·exact Or.inl h3
 ·exact Or.inr ⟨b, off, h4, by omega, h6⟩
section
open Go.RowKit Go.ChangeShapes Go.WideShapes Go.Deep
theorem below_sameAt {n : Nat} {W W' : World} {q : MemPlace} (h : Below n W W') (hq : q.block < n) : W.sameAt W' q := by
 cases q with
 | cell b o => exact World.cell?_of_block (w := W) (h.block b hq)
 | map b => exact h.block b hq
theorem kT {H : Type} {enc : TypeId × Value → H} {W W' : World} (hl : laidOutB Tryz.prog = true) (hb : Below W.heap.size W W') :
  ∀ {ts : List TypeId} {vs : List Value} {ds : List (DataW H)} {p : List MemPlace}, (∀ t ∈ ts, Tryz.prog.readableRec t = true ∧ t < Tryz.prog.types.size) → DataW.TrodAll enc Tryz.prog W 0 (fun _ => true) true ts vs ds p → (∀ q ∈ p, q.block < W.heap.size) →
   ∀ sp : Nat → Bool, (∀ q ∈ p, sp q.block = true) → DataW.TrodAll enc Tryz.prog W' 0 sp true ts vs ds p
 | [], vs, ds, p, _, h, _, sp, _ => by
  obtain ⟨rfl, rfl, rfl⟩ := trodAll_nil h
  exact trodAll_mk0
 | t :: ts, vs, ds, p, ht, h, hlt, sp, hsp => by
  obtain ⟨v, vs', d, ds', p0, p1, rfl, rfl, rfl, h0, r0⟩ := trodAll_cons h
  have h1 := WideElems.Trod_stays hl (ht t (by simp)).1 (ht t (by simp)).2 (W' := W') (sp' := sp) h0 (fun q hq => below_sameAt hb (hlt q (by simp [hq]))) (fun q hq => hsp q (by simp [hq]))
  exact trodAll_cons_mk h1 (kT hl hb (fun t' ht' => ht t' (by simp [ht'])) r0 (fun q hq => hlt q (by simp [hq])) sp (fun q hq => hsp q (by simp [hq])))
theorem laid_ok : laidOutB Tryz.prog = true := by kernel_rfl
theorem kP {H : Type} {P : Program} {e : TypeId} : ∀ {es : List (DataW H)} {d : DataW H}, d ∈ es → ∀ n ∈ d.weights P e, n ∈ DataW.weightsAll P e es
 | [], _, h, _, _ => by cases h
 | x :: es, d, h, n, hn => by
  simp only [DataW.weightsAll, List.mem_append]
  rcases List.mem_cons.1 h with rfl | h
  ·exact Or.inl hn
  ·exact Or.inr (kP h n hn)
theorem qK {t e : TypeId} {es sp : List (DataW H)} (ht : P.underlying t = some (.slice e)) (h : ∀ n ∈ (DataW.slice es sp).weights P t, n ≤ reachBytes) :
  (es.length + sp.length) * P.bytesOf e ≤ reachBytes ∧ ∀ d ∈ es, ∀ n ∈ d.weights P e, n ≤ reachBytes := by
 unfold DataW.weights at h
 rw [ht] at h
 refine ⟨h _ (by simp), fun d hd n hn => h n ?_⟩
 simp only [List.mem_cons, List.mem_append]
 exact Or.inr (Or.inl (kP hd n hn))
theorem w_struct {t : TypeId} {fs : Array Field} {parts : List (DataW H)} (ht : P.underlying t = some (.struct fs)) (h : ∀ n ∈ (DataW.agg parts).weights P t, n ≤ reachBytes) {i : Nat} {f : Field} {d : DataW H} (hf : fs[i]? = some f) (hd : parts[i]? = some d) :
  ∀ n ∈ d.weights P f.type, n ≤ reachBytes := by
 intro n hn
 refine h n ?_
 unfold DataW.weights
 rw [ht]
 exact DataW.weights_mem_each (j := i) (t := f.type) (by simp [hf]) hd n hn
theorem uAJ {ts : List TypeId} {ds : List (DataW H)} (h : (DataW.weightsEach P ts ds).all (· ≤ reachBytes) = true) {j : Nat} {t : TypeId} {d : DataW H} (ht : ts[j]? = some t) (hd : ds[j]? = some d) : ∀ n ∈ d.weights P t, n ≤ reachBytes := by
 intro n hn
 have := List.all_eq_true.1 h n (DataW.weights_mem_each ht hd n hn)
 simpa using this
theorem rY {W : World} {v : Value} (h : W.cell? a = some v) : a.spot = none ∧ a.block < W.heap.size := by
 unfold World.cell? at h
 cases hb : W.heap[a.block]? with
 | none => rw [hb] at h; cases h
 | some o =>
  refine ⟨?_, (Array.getElem?_eq_some_iff.1 hb).1⟩
  rw [hb] at h
  cases o with
  | cells c t fr =>
   simp only at h
   cases hs : a.spot with
   | none => rfl
   | some _ => rw [hs] at h; simp at h
  | _ => cases h
theorem sB (h : a.spot = none) : a = ⟨a.block, a.off, none⟩ := by cases a; simp at h; subst h; rfl
section
variable {H : Type} {enc : TypeId × Value → H} {W : World} {sp : Nat → Bool} {held : Bool}
end
end
section
open Go.RowKit Go.ChangeShapes Go.WideShapes Go.Deep
theorem zG : Tryz.prog.cellsOf 3 = 1 := by kernel_rfl
theorem cells_u32 : Tryz.prog.cellsOf 34 = 1 := by kernel_rfl
theorem jY : Tryz.prog.cellsOf 4 = 1 := by kernel_rfl
theorem sJ {n : Int} (h : (Lit.int .u32 n).wf = true) : 0 ≤ n ∧ n < 4294967296 := by
 simp only [Lit.wf, Bool.and_eq_true, decide_eq_true_eq] at h
 have e1 : IntKind.u32.min = 0 := by decide
 have e2 : IntKind.u32.max = 4294967295 := by decide
 omega
theorem bJ {l : List α} {i : Nat} {x : α} (h : l[i]? = some x) : (l.drop i).take 1 = [x] := by
 obtain ⟨hi, rfl⟩ := List.getElem?_eq_some_iff.1 h
 rw [List.drop_eq_getElem_cons hi]; rfl
theorem zI {l : List α} {n : Nat} (h : l.length = n) (i : Nat) (hi : i < n) : ∃ x, l[i]? = some x := ⟨l[i], List.getElem?_eq_getElem (by omega)⟩
section
variable {H : Type} {enc : TypeId × Value → H} {W : World} {sp : Nat → Bool} {held : Bool}
end
end
end Go.Proofs.YtjogffchdejabaaGreatDoor
