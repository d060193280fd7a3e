/- Parts. -/
import Derived.Test.YtnkocjkkefnelaaGreatPs4
import Derived.Test.YtnkocjkkefnelaaGreatPs6
import Derived.Test.YtnkocjkkefnelaaGreatPs23
import Derived.Test.YtnkocjkkefnelaaGreatPs24
set_option linter.unusedVariables false
set_option linter.unusedSimpArgs false
set_option maxHeartbeats 4000000
set_option maxRecDepth 100000
namespace Go.Proofs.YtnkocjkkefnelaaGreat
open Go.RowKit
def evRh (e : Ev) : List OV := (evTV e).map .d
structure ShL (s : ShS) (i : Nat) : Prop where
 es : s.es.length ≤ 2 + 2 * i
 fs : s.fs.length = s.es.length
 o0 : s.o0.length ≤ 1 + i
 o1 : s.o1.length ≤ 1 + i
 a : s.a.length = 4
theorem oT (K B : Nat → Int) : ∀ i, ShL (shTo K B i) i
 | 0 => ⟨Nat.le_refl 2, rfl, Nat.le_refl 1, Nat.le_refl 1, rfl⟩
 | i + 1 => by
  obtain ⟨h1, h2, h3, h4, h5⟩ := oT K B i
  show ShL (shStep K B i (shTo K B i)) (i + 1)
  generalize shTo K B i = s at h1 h2 h3 h4 h5
  have hF : (shF B i s).es.length ≤ s.es.length + 1 ∧ (shF B i s).fs.length = (shF B i s).es.length ∧ (shF B i s).o0 = s.o0 ∧ (shF B i s).o1 = s.o1 ∧ (shF B i s).a = s.a := by
   unfold shF
   split <;> simp [h2]
  obtain ⟨f1, f2, f3, f4, f5⟩ := hF
  unfold shStep
  generalize shF B i s = t at f1 f2 f3 f4 f5
  have hO : (shO K i t).es = t.es ∧ (shO K i t).fs = t.fs ∧ (shO K i t).o0.length ≤ t.o0.length + 1 ∧ (shO K i t).o1.length ≤ t.o1.length + 1 ∧ (shO K i t).a.length = t.a.length := by
   unfold shO
   refine ⟨rfl, rfl, ?_, ?_, by simp⟩ <;> (dsimp only; split <;> simp)
  obtain ⟨g1, g2, g3, g4, g5⟩ := hO
  rw [f3] at g3
  rw [f4] at g4
  rw [f5] at g5
  refine ⟨?_, ?_, ?_, ?_, ?_⟩ <;> dsimp only
  ·rw [List.length_append, g1]; simp only [List.length_cons, List.length_nil]; omega
  ·rw [List.length_append, List.length_append, g1, g2]; simp only [List.length_cons, List.length_nil]; omega
  ·omega
  ·omega
  ·omega
def shSt (v0 v1 v2 : Nat) (s : ShS) (τE τF τ0 τ1 : Stamp) : List (Nat × (Stamp × Row)) :=
 [(6, ((v0, 3), ⟨3, [[.d (.c (.slice none 0 0)), .d (.c (.slice none 0 0)), .d (.c (.slice none 0 0))]]⟩)), (7, ((v1, 8), ⟨3, [[.os 18 τE 13 s.es.length, .os 19 τF 1 s.fs.length, .os 22 (v1, 6) 1 2]]⟩)), (18, (τE, ⟨13, s.es.map evRh⟩)), (19, (τF, ⟨1, s.fs.map (cellO .i64)⟩)), (22, ((v1, 6), ⟨1, [[.os 20 τ0 1 s.o0.length], [.os 21 τ1 1 s.o1.length]]⟩)), (20, (τ0, ⟨1, s.o0.map (cellO .i64)⟩)), (21, (τ1, ⟨1, s.o1.map (cellO .i64)⟩)), (8, ((v2, 0), ⟨4, [s.a.map (OV.int .i64)]⟩))]
def shTm (K B : Nat → Int) (R : Nat → Bool) (v0 v1 v2 : Nat) : List (Nat × OV) :=
 [(3, .d (.pt [.c (.int .i64 (K 0)), .c (.int .i64 (K 1)), .c (.int .i64 (K 2)), .c (.int .i64 (K 3))] 0)), (4, .d (.pt [.c (.int .i64 (B 0)), .c (.int .i64 (B 1))] 0)), (5, .d (.pt [.c (.bool (R 0)), .c (.bool (R 1)), .c (.bool (R 2)), .c (.bool (R 3))] 0)), (6, .lo 6 (v0, 3) 3 0 0), (7, .lo 7 (v1, 8) 3 0 0), (8, .lo 8 (v2, 0) 4 0 0)]
section
variable {K B : Nat → Int} {s : ShS} {a : List Int} {i h p : Nat} (hi : i % 2 = 1) (e : i / 2 = h) (q : i - 1 = p)
include hi e
theorem fY (b : B h = 1) : shF B i s = { s with es := s.es ++ [shFn h], fs := s.fs ++ [-1] } := by subst e; exact if_pos ⟨hi, b⟩
theorem fN (b : ¬ B h = 1) : shF B i s = s := by subst e; have _ := hi; exact if_neg fun g => b g.2
theorem rY (b : B h = 4) : shRl B i = true := by subst e; exact decide_eq_true ⟨hi, b⟩
theorem rN (b : ¬ B h = 4) : shRl B i = false := by subst e; have _ := hi; exact decide_eq_false fun g => b g.2
include q
theorem aY (b : B h = 2 ∧ K p = 1) : shAd K B a i = [a.getD p 0] := by subst e q; exact if_pos ⟨hi, b⟩
theorem aN (b : ¬ (B h = 2 ∧ K p = 1)) : shAd K B a i = [] := by subst e q; have _ := hi; exact if_neg fun g => b g.2
theorem cY (b : B h = 3 ∧ K p = 1) : shCt K B a i = [a.getD p 0] := by subst e q; exact if_pos ⟨hi, b⟩
theorem cN (b : ¬ (B h = 3 ∧ K p = 1)) : shCt K B a i = [] := by subst e q; have _ := hi; exact if_neg fun g => b g.2
end
theorem leS {p : Prop} (h : p := by repeat' (first | exact vW _ | exact vP _ | refine uL rfl ?_ | refine vH rfl ?_ | (refine vF rfl ?_ ?_; (simp <;> rfl)) | (refine uS rfl ?_ ?_; (simp <;> rfl)))) : p := h
def fz6 (v0 : Nat) : Nat × (Stamp × Row) := (6, ((v0, 3), ⟨3, [[.d (.c (.slice none 0 0)), .d (.c (.slice none 0 0)), .d (.c (.slice none 0 0))]]⟩))
def fz7 (v1 : Nat) (a b c : OV) : Nat × (Stamp × Row) := (7, ((v1, 8), ⟨3, [[a, b, c]]⟩))
def fzT (v0 v1 : Nat) : List (Nat × OV) := [(6, .lo 6 (v0, 3) 3 0 0), (7, .lo 7 (v1, 8) 3 0 0), (13, .int .i64 4)]
theorem uAQ {l : List Int} (h : l.length = 4) : ∃ a b c d, l = [a, b, c, d] := by
 match l, h with
 | [a, b, c, d], _ => exact ⟨a, b, c, d, rfl⟩
set_option maxHeartbeats 8000000 in
theorem shape_p (K B : Nat → Int) (R : Nat → Bool) (hK : ∀ i, K i = 1 ∨ K i = 2) (hOk : ∀ i, i < 4 → shRdOk (shRd K B R i) i R = true) : Pure E.P 21 [.ag [.int .i64 (K 0), .int .i64 (K 1), .int .i64 (K 2), .int .i64 (K 3)], .ag [.int .i64 (B 0), .int .i64 (B 1)], .ag [.bool (R 0), .bool (R 1), .bool (R 2), .bool (R 3)]] (exOV (shRd K B R 4).ex) := by
 have f3 : Frozen 3 := ⟨trivial⟩
 have f4 : Frozen 4 := ⟨trivial⟩
 have f5 : Frozen 5 := ⟨trivial⟩
 have f73 : Frozen 73 := ⟨trivial⟩
 have f86 : Frozen 86 := ⟨trivial⟩
 have n16 : NilS 16 := ⟨trivial⟩
 have n17 : NilS 17 := ⟨trivial⟩
 have n41 : NilS 41 := ⟨trivial⟩
 have n53 : NilS 53 := ⟨trivial⟩
 have k55 : KeyOf 55 18 := ⟨trivial⟩
 have k60 : KeyOf 60 19 := ⟨trivial⟩
 have k122 : KeyOf 122 18 := ⟨trivial⟩
 have k127 : KeyOf 127 19 := ⟨trivial⟩
 refine FnW.toR ?_
 refine wW (vs := [.cell 6 26]) Tryz.func21 (by decide) rfl Tryz.ntmps21 (Nat.le_of_ble_eq_true rfl) rfl ?_
 refine run ?_; refine aoR fun _ => ?_
 refine run ?_; refine aoR fun _ => ?_
 refine run ?_; refine aoR fun _ => ?_
 refine run ?_; refine aoR fun _ => ?_
 refine run ?_; rotate_left
 rename_i v0 v1 v2 _
 refine awp_mid (X := Stamp × Stamp × Stamp × Stamp) (fun y => tmL (shTm K B R v0 v1 v2)) (fun y => stL (shSt v0 v1 v2 (shTo K B 4) y.1 y.2.1 y.2.2.1 y.2.2.2)) (fun _ => True) ?_ ?_
 ·refine uT (X := Nat × ShS × Stamp × Stamp × Stamp × Stamp) (fun y => tmL ((9, .int .i64 y.1) :: shTm K B R v0 v1 v2)) (fun y => stL (shSt v0 v1 v2 y.2.1 y.2.2.1 y.2.2.2.1 y.2.2.2.2.1 y.2.2.2.2.2)) (fun y => y.1 ≤ 4 ∧ y.2.1 = shTo K B y.1) (fun y => 4 - y.1) (0, shTo K B 0, (v1, 2), (v1, 3), (v1, 4), (v1, 5)) ⟨Nat.zero_le _, rfl⟩ leP leP ?_
  rintro ⟨i, s, τE, τF, τ0, τ1⟩ ⟨hi, hs⟩
  dsimp only at hi hs ⊢
  by_cases h4 : i = 4
  ·subst h4 hs
   refine run ?_; refine aoR fun _ => ?_
   refine run ?_; refine cnd ?_ ?_
   refine uF fun _ => ?_; try omega
   refine uI fun _ => ?_; try omega
   refine run ?_; rotate_left
   exact ⟨(τE, τF, τ0, τ1), trivial, leP, leP⟩
  obtain ⟨l1, l2, l3, l4, l5⟩ := oT K B i
  rw [← hs] at l1 l2 l3 l4 l5
  obtain ⟨a0, a1, a2, a3, ha⟩ := uAQ l5
  obtain ⟨es, fs, o0, o1, a⟩ := s
  dsimp only at l1 l2 l3 l4 l5 ha
  subst ha
  refine uY (X := Unit) (fun _ => tmL ((9, .int .i64 i) :: shTm K B R v0 v1 v2)) (fun _ => stL (shSt v0 v1 v2 ⟨es, fs, o0, o1, [a0, a1, a2, a3]⟩ τE τF τ0 τ1)) ?_ fun _ => ?_
  ·refine run ?_
   refine aoR fun _ => ?_; refine run ?_
   refine cnd ?_ ?_
   refine uF fun _ => ?_; try omega
   refine run ?_; rotate_left
   refine uI fun _ => ?_; try omega
   exact vV () leP leP
  refine uB (uW ?_)
  have h03 : i = 0 ∨ i = 1 ∨ i = 2 ∨ i = 3 := by omega
  rcases h03 with rfl | rfl | rfl | rfl
  ·-- round 0
   have k116 : KeyOf 116 20 := ⟨trivial⟩
   have hm2 : Int.tmod 0 2 = 0 := rfl
   refine uY (X := Unit) (fun _ => tmL ((9, .int .i64 0) :: (10, .int .i64 0) ::  shTm K B R v0 v1 v2)) (fun _ => stL (shSt v0 v1 v2 ⟨es, fs, o0, o1, [a0, a1, a2, a3]⟩ τE τF τ0 τ1)) ?_ fun _ => ?_
   ·refine aoR fun _ => ?_
    refine run ?_; rotate_left
    exact vV () leP leP
   refine uY (X := Unit) (fun _ => tmL ((9, .int .i64 0) :: (10, .int .i64 0) :: (11, .int .i64 0) ::  shTm K B R v0 v1 v2)) (fun _ => stL (shSt v0 v1 v2 ⟨es, fs, o0, o1, [a0, a1, a2, a3]⟩ τE τF τ0 τ1)) ?_ fun _ => ?_
   ·refine aoR fun _ => ?_
    refine run ?_; rotate_left
    exact vV () leP leP
   refine uY (X := Stamp) (fun τ => tmL ((9, .int .i64 0) :: (10, .int .i64 0) :: (11, .int .i64 0) :: (12, .lo 12 τ 13 0 0) ::  shTm K B R v0 v1 v2)) (fun τ => stL ((12, (τ, ⟨13, [evRh (shEv 0 (K 0) 0 0 false [] [])]⟩)) :: shSt v0 v1 v2 ⟨es, fs, o0, o1, [a0, a1, a2, a3]⟩ τE τF τ0 τ1)) ?_ fun τ => ?_
   ·refine aoR fun _ => ?_
    refine run ?_; rotate_left
    rename_i v8
    exact vV (v8, 8) leP leP
   refine uY (X := Stamp × Stamp) (fun y => tmL ((9, .int .i64 0) :: (11, .int .i64 0) :: (12, .lo 12 τ 13 0 0) :: shTm K B R v0 v1 v2)) (fun y => stL ((12, (τ, ⟨13, [evRh (shEv 0 (K 0) 0 0 (shRl B 0) (shAd K B [a0, a1, a2, a3] 0) (shCt K B [a0, a1, a2, a3] 0))]⟩)) :: shSt v0 v1 v2 (shF B 0 ⟨es, fs, o0, o1, [a0, a1, a2, a3]⟩) y.1 y.2 τ0 τ1)) ?_ ?_
   ·refine run ?_
    refine aoR fun _ => ?_; refine run ?_
    refine cnd ?_ ?_
    refine uF fun _ => ?_; try omega
    refine uI fun _ => ?_; try omega
    refine run ?_; rotate_left
    rw [show shF B 0 ⟨es, fs, o0, o1, [a0, a1, a2, a3]⟩ = ⟨es, fs, o0, o1, [a0, a1, a2, a3]⟩ from if_neg (fun g => absurd g.1 (by decide)), show shRl B 0 = false from decide_eq_false (fun g => absurd g.1 (by decide)), show shAd K B [a0, a1, a2, a3] 0 = [] from if_neg (fun g => absurd g.1 (by decide)), show shCt K B [a0, a1, a2, a3] 0 = [] from if_neg (fun g => absurd g.1 (by decide))]
    exact vV (τE, τF) leP leP
   rintro ⟨τE, τF⟩
   dsimp only
   have ht1 : (shF B 0 ⟨es, fs, o0, o1, [a0, a1, a2, a3]⟩).o0 = o0 ∧ (shF B 0 ⟨es, fs, o0, o1, [a0, a1, a2, a3]⟩).o1 = o1 ∧ (shF B 0 ⟨es, fs, o0, o1, [a0, a1, a2, a3]⟩).a = [a0, a1, a2, a3] ∧ (shF B 0 ⟨es, fs, o0, o1, [a0, a1, a2, a3]⟩).es.length ≤ es.length + 1 ∧ (shF B 0 ⟨es, fs, o0, o1, [a0, a1, a2, a3]⟩).fs.length ≤ fs.length + 1 := by unfold shF; split <;> simp
   generalize ht : shF B 0 ⟨es, fs, o0, o1, [a0, a1, a2, a3]⟩ = t at ht1
   generalize hrl : shRl B 0 = rl
   generalize had : shAd K B [a0, a1, a2, a3] 0 = ad
   generalize hct : shCt K B [a0, a1, a2, a3] 0 = ct
   obtain ⟨es', fs', p0, p1, b⟩ := t
   dsimp only at ht1
   obtain ⟨rfl, rfl, rfl, q1, q2⟩ := ht1
   refine uY (X := Unit) (fun _ => tmL ((9, .int .i64 0) :: (11, .int .i64 0) :: (12, .lo 12 τ 13 0 0) :: shTm K B R v0 v1 v2)) (fun _ => stL ((12, (τ, ⟨13, [evRh (shEv 0 (K 0) 0 0 rl ad ct)]⟩)) :: shSt v0 v1 v2 ⟨es', fs', p0, p1, [(es'.length : Int), a1, a2, a3]⟩ τE τF τ0 τ1)) ?_ fun _ => ?_
   ·refine aoR fun _ => ?_
    refine run ?_; rotate_left
    exact vV () leP leP
   refine uY (X := Stamp) (fun _ => tmL ((9, .int .i64 0) :: (11, .int .i64 0) :: (12, .lo 12 τ 13 0 0) :: shTm K B R v0 v1 v2)) (fun y => stL ((12, (τ, ⟨13, [evRh (shEv 0 (K 0) 0 (shVal K 0) rl ad ct)]⟩)) :: shSt v0 v1 v2 (shO K 0 ⟨es', fs', p0, p1, [a0, a1, a2, a3]⟩) τE τF y τ1)) ?_ fun y => ?_
   ·refine run ?_
    refine aoR fun _ => ?_; refine run ?_
    refine cnd ?_ ?_
    refine uF fun _ => ?_; try omega
    refine run ?_; refine aoR fun _ => ?_
    refine run ?_
    refine uO (E := E) ?_ (fun _ => ?_); exact rfl
    refine run ?_; rotate_left
    refine uI fun _ => ?_; try omega
    refine run ?_; rotate_left
    ·rename_i hk _ v25
     rw [show shVal K 0 = 1 + 0 from if_pos hk, show shO K 0 ⟨es', fs', p0, p1, [a0, a1, a2, a3]⟩ = ⟨es', fs', p0 ++ [(es'.length : Int)], p1, [(es'.length : Int), a1, a2, a3]⟩ from by unfold shO; rw [if_pos ⟨hk, rfl⟩, if_neg (fun g => absurd g.2 (by decide))]; rfl]
     exact vV (v25, 12) leP leS
    ·rename_i hk
     rw [show shVal K 0 = 0 from if_neg hk, show shO K 0 ⟨es', fs', p0, p1, [a0, a1, a2, a3]⟩ = ⟨es', fs', p0, p1, [(es'.length : Int), a1, a2, a3]⟩ from by unfold shO; rw [if_neg (fun g => hk g.1), if_neg (fun g => hk g.1)]; rfl]
     exact vV τ0 leP leP
   have hu1 : (shO K 0 ⟨es', fs', p0, p1, [a0, a1, a2, a3]⟩).es = es' ∧ (shO K 0 ⟨es', fs', p0, p1, [a0, a1, a2, a3]⟩).fs = fs' := ⟨rfl, rfl⟩
   generalize hu : shO K 0 ⟨es', fs', p0, p1, [a0, a1, a2, a3]⟩ = u at hu1
   generalize hvl : shVal K 0 = vl
   obtain ⟨es2, fs2, p2, p3, b⟩ := u
   dsimp only at hu1
   obtain ⟨rfl, rfl⟩ := hu1
   refine run ?_; refine aoR fun _ => ?_
   refine run ?_; refine aoR fun _ => ?_
   refine run ?_; refine aoR fun _ => ?_
   refine run ?_; rotate_left
   rename_i v26 v27 _
   refine uV (1, ⟨es2 ++ [shEv 0 (K 0) 0 vl rl ad ct], fs2 ++ [-1], p2, p3, b⟩, (v26, 4), (v27, 3), y, τ1) ⟨by dsimp only; omega, ?_⟩ (by dsimp only; omega) leP leS
   show _ = shStep K B 0 (shTo K B 0)
   rw [← hs]
   unfold shStep
   rw [ht, hu]
   dsimp only
   rw [hrl, had, hct, hvl]
   rfl
  ·-- round 1
   have k116 : KeyOf 116 21 := ⟨trivial⟩
   have hm2 : Int.tmod 1 2 = 1 := rfl
   refine uY (X := Unit) (fun _ => tmL ((9, .int .i64 1) :: (10, .int .i64 0) ::  shTm K B R v0 v1 v2)) (fun _ => stL (shSt v0 v1 v2 ⟨es, fs, o0, o1, [a0, a1, a2, a3]⟩ τE τF τ0 τ1)) ?_ fun _ => ?_
   ·refine aoR fun _ => ?_
    refine run ?_; rotate_left
    exact vV () leP leP
   refine uY (X := Unit) (fun _ => tmL ((9, .int .i64 1) :: (10, .int .i64 0) :: (11, .int .i64 1) ::  shTm K B R v0 v1 v2)) (fun _ => stL (shSt v0 v1 v2 ⟨es, fs, o0, o1, [a0, a1, a2, a3]⟩ τE τF τ0 τ1)) ?_ fun _ => ?_
   ·refine aoR fun _ => ?_
    refine run ?_; rotate_left
    exact vV () leP leP
   refine uY (X := Stamp) (fun τ => tmL ((9, .int .i64 1) :: (10, .int .i64 0) :: (11, .int .i64 1) :: (12, .lo 12 τ 13 0 0) ::  shTm K B R v0 v1 v2)) (fun τ => stL ((12, (τ, ⟨13, [evRh (shEv 0 (K 1) 1 0 false [] [])]⟩)) :: shSt v0 v1 v2 ⟨es, fs, o0, o1, [a0, a1, a2, a3]⟩ τE τF τ0 τ1)) ?_ fun τ => ?_
   ·refine aoR fun _ => ?_
    refine run ?_; rotate_left
    rename_i v8
    exact vV (v8, 8) leP leP
   refine uY (X := Stamp × Stamp) (fun y => tmL ((9, .int .i64 1) :: (11, .int .i64 1) :: (12, .lo 12 τ 13 0 0) :: shTm K B R v0 v1 v2)) (fun y => stL ((12, (τ, ⟨13, [evRh (shEv 0 (K 1) 1 0 (shRl B 1) (shAd K B [a0, a1, a2, a3] 1) (shCt K B [a0, a1, a2, a3] 1))]⟩)) :: shSt v0 v1 v2 (shF B 1 ⟨es, fs, o0, o1, [a0, a1, a2, a3]⟩) y.1 y.2 τ0 τ1)) ?_ ?_
   ·refine run ?_
    refine aoR fun _ => ?_; refine run ?_
    refine cnd ?_ ?_
    refine uF fun _ => ?_; try omega
    refine run ?_; refine aoR fun _ => ?_
    refine run ?_; refine aoR fun _ => ?_
    refine run ?_; refine cnd ?_ ?_
    refine uF fun _ => ?_; try omega
    refine run ?_; refine aoR fun _ => ?_
    refine run ?_; refine aoR fun _ => ?_
    refine run ?_; rotate_left
    refine uI fun _ => ?_; try omega
    refine run ?_; refine aoR fun _ => ?_
    refine run ?_; refine cnd ?_ ?_
    refine uF fun _ => ?_; try omega
    refine run ?_; refine aoR fun _ => ?_
    refine run ?_; refine cnd ?_ ?_
    refine uF fun _ => ?_; try omega
    refine aoR fun _ => ?_; refine run ?_
    rotate_left
    refine uI fun _ => ?_; try omega
    refine run ?_; rotate_left
    refine uI fun _ => ?_; try omega
    refine run ?_; refine aoR fun _ => ?_
    refine run ?_; refine cnd ?_ ?_
    refine uF fun _ => ?_; try omega
    refine run ?_; refine aoR fun _ => ?_
    refine run ?_; refine cnd ?_ ?_
    refine uF fun _ => ?_; try omega
    refine aoR fun _ => ?_; refine run ?_
    rotate_left
    refine uI fun _ => ?_; try omega
    refine run ?_; rotate_left
    refine uI fun _ => ?_; try omega
    refine run ?_; refine aoR fun _ => ?_
    refine run ?_; refine cnd ?_ ?_
    refine uF fun _ => ?_; try omega
    refine aoR fun _ => ?_; refine run ?_
    rotate_left
    refine uI fun _ => ?_; try omega
    refine run ?_; rotate_left
    refine uI fun _ => ?_; try omega
    ·rw [fY (B := B) (i := 1) (h := 0) rfl rfl (by omega), rN (B := B) (i := 1) (h := 0) rfl rfl (by omega), aN (K := K) (B := B) (i := 1) (h := 0) (p := 0) rfl rfl rfl (by omega), cN (K := K) (B := B) (i := 1) (h := 0) (p := 0) rfl rfl rfl (by omega)]
     rename_i v12 v13
     exact vV ((v12, 5), (v13, 3)) leP leS
    ·rw [fN (B := B) (i := 1) (h := 0) rfl rfl (by omega), rN (B := B) (i := 1) (h := 0) rfl rfl (by omega), aY (K := K) (B := B) (i := 1) (h := 0) (p := 0) rfl rfl rfl (by omega), cN (K := K) (B := B) (i := 1) (h := 0) (p := 0) rfl rfl rfl (by omega)]
     exact vV (τE, τF) leP leP
    ·rw [fN (B := B) (i := 1) (h := 0) rfl rfl (by omega), rN (B := B) (i := 1) (h := 0) rfl rfl (by omega), aN (K := K) (B := B) (i := 1) (h := 0) (p := 0) rfl rfl rfl (by omega), cN (K := K) (B := B) (i := 1) (h := 0) (p := 0) rfl rfl rfl (by omega)]
     exact vV (τE, τF) leP leP
    ·rw [fN (B := B) (i := 1) (h := 0) rfl rfl (by omega), rN (B := B) (i := 1) (h := 0) rfl rfl (by omega), aN (K := K) (B := B) (i := 1) (h := 0) (p := 0) rfl rfl rfl (by omega), cY (K := K) (B := B) (i := 1) (h := 0) (p := 0) rfl rfl rfl (by omega)]
     exact vV (τE, τF) leP leP
    ·rw [fN (B := B) (i := 1) (h := 0) rfl rfl (by omega), rN (B := B) (i := 1) (h := 0) rfl rfl (by omega), aN (K := K) (B := B) (i := 1) (h := 0) (p := 0) rfl rfl rfl (by omega), cN (K := K) (B := B) (i := 1) (h := 0) (p := 0) rfl rfl rfl (by omega)]
     exact vV (τE, τF) leP leP
    ·rw [fN (B := B) (i := 1) (h := 0) rfl rfl (by omega), rY (B := B) (i := 1) (h := 0) rfl rfl (by omega), aN (K := K) (B := B) (i := 1) (h := 0) (p := 0) rfl rfl rfl (by omega), cN (K := K) (B := B) (i := 1) (h := 0) (p := 0) rfl rfl rfl (by omega)]
     exact vV (τE, τF) leP leP
    ·rw [fN (B := B) (i := 1) (h := 0) rfl rfl (by omega), rN (B := B) (i := 1) (h := 0) rfl rfl (by omega), aN (K := K) (B := B) (i := 1) (h := 0) (p := 0) rfl rfl rfl (by omega), cN (K := K) (B := B) (i := 1) (h := 0) (p := 0) rfl rfl rfl (by omega)]
     exact vV (τE, τF) leP leP
   rintro ⟨τE, τF⟩
   dsimp only
   have ht1 : (shF B 1 ⟨es, fs, o0, o1, [a0, a1, a2, a3]⟩).o0 = o0 ∧ (shF B 1 ⟨es, fs, o0, o1, [a0, a1, a2, a3]⟩).o1 = o1 ∧ (shF B 1 ⟨es, fs, o0, o1, [a0, a1, a2, a3]⟩).a = [a0, a1, a2, a3] ∧ (shF B 1 ⟨es, fs, o0, o1, [a0, a1, a2, a3]⟩).es.length ≤ es.length + 1 ∧ (shF B 1 ⟨es, fs, o0, o1, [a0, a1, a2, a3]⟩).fs.length ≤ fs.length + 1 := by unfold shF; split <;> simp
   generalize ht : shF B 1 ⟨es, fs, o0, o1, [a0, a1, a2, a3]⟩ = t at ht1
   generalize hrl : shRl B 1 = rl
   generalize had : shAd K B [a0, a1, a2, a3] 1 = ad
   generalize hct : shCt K B [a0, a1, a2, a3] 1 = ct
   obtain ⟨es', fs', p0, p1, b⟩ := t
   dsimp only at ht1
   obtain ⟨rfl, rfl, rfl, q1, q2⟩ := ht1
   refine uY (X := Unit) (fun _ => tmL ((9, .int .i64 1) :: (11, .int .i64 1) :: (12, .lo 12 τ 13 0 0) :: shTm K B R v0 v1 v2)) (fun _ => stL ((12, (τ, ⟨13, [evRh (shEv 0 (K 1) 1 0 rl ad ct)]⟩)) :: shSt v0 v1 v2 ⟨es', fs', p0, p1, [a0, (es'.length : Int), a2, a3]⟩ τE τF τ0 τ1)) ?_ fun _ => ?_
   ·refine aoR fun _ => ?_
    refine run ?_; rotate_left
    exact vV () leP leP
   refine uY (X := Stamp) (fun _ => tmL ((9, .int .i64 1) :: (11, .int .i64 1) :: (12, .lo 12 τ 13 0 0) :: shTm K B R v0 v1 v2)) (fun y => stL ((12, (τ, ⟨13, [evRh (shEv 0 (K 1) 1 (shVal K 1) rl ad ct)]⟩)) :: shSt v0 v1 v2 (shO K 1 ⟨es', fs', p0, p1, [a0, a1, a2, a3]⟩) τE τF τ0 y)) ?_ fun y => ?_
   ·refine run ?_
    refine aoR fun _ => ?_; refine run ?_
    refine cnd ?_ ?_
    refine uF fun _ => ?_; try omega
    refine run ?_; refine aoR fun _ => ?_
    refine run ?_
    refine uO (E := E) ?_ (fun _ => ?_); exact rfl
    refine run ?_; rotate_left
    refine uI fun _ => ?_; try omega
    refine run ?_; rotate_left
    ·rename_i hk _ v25
     rw [show shVal K 1 = 1 + 1 from if_pos hk, show shO K 1 ⟨es', fs', p0, p1, [a0, a1, a2, a3]⟩ = ⟨es', fs', p0, p1 ++ [(es'.length : Int)], [a0, (es'.length : Int), a2, a3]⟩ from by unfold shO; rw [if_neg (fun g => absurd g.2 (by decide)), if_pos ⟨hk, rfl⟩]; rfl]
     exact vV (v25, 12) leP leS
    ·rename_i hk
     rw [show shVal K 1 = 0 from if_neg hk, show shO K 1 ⟨es', fs', p0, p1, [a0, a1, a2, a3]⟩ = ⟨es', fs', p0, p1, [a0, (es'.length : Int), a2, a3]⟩ from by unfold shO; rw [if_neg (fun g => hk g.1), if_neg (fun g => hk g.1)]; rfl]
     exact vV τ1 leP leP
   have hu1 : (shO K 1 ⟨es', fs', p0, p1, [a0, a1, a2, a3]⟩).es = es' ∧ (shO K 1 ⟨es', fs', p0, p1, [a0, a1, a2, a3]⟩).fs = fs' := ⟨rfl, rfl⟩
   generalize hu : shO K 1 ⟨es', fs', p0, p1, [a0, a1, a2, a3]⟩ = u at hu1
   generalize hvl : shVal K 1 = vl
   obtain ⟨es2, fs2, p2, p3, b⟩ := u
   dsimp only at hu1
   obtain ⟨rfl, rfl⟩ := hu1
   refine run ?_; refine aoR fun _ => ?_
   refine run ?_; refine aoR fun _ => ?_
   refine run ?_; refine aoR fun _ => ?_
   refine run ?_; rotate_left
   rename_i v26 v27 _
   refine uV (2, ⟨es2 ++ [shEv 0 (K 1) 1 vl rl ad ct], fs2 ++ [-1], p2, p3, b⟩, (v26, 4), (v27, 3), τ0, y) ⟨by dsimp only; omega, ?_⟩ (by dsimp only; omega) leP leS
   show _ = shStep K B 1 (shTo K B 1)
   rw [← hs]
   unfold shStep
   rw [ht, hu]
   dsimp only
   rw [hrl, had, hct, hvl]
   rfl
  ·-- round 2
   have k116 : KeyOf 116 21 := ⟨trivial⟩
   have hm2 : Int.tmod 2 2 = 0 := rfl
   refine uY (X := Unit) (fun _ => tmL ((9, .int .i64 2) :: (10, .int .i64 1) ::  shTm K B R v0 v1 v2)) (fun _ => stL (shSt v0 v1 v2 ⟨es, fs, o0, o1, [a0, a1, a2, a3]⟩ τE τF τ0 τ1)) ?_ fun _ => ?_
   ·refine aoR fun _ => ?_
    refine run ?_; rotate_left
    exact vV () leP leP
   refine uY (X := Unit) (fun _ => tmL ((9, .int .i64 2) :: (10, .int .i64 1) :: (11, .int .i64 1) ::  shTm K B R v0 v1 v2)) (fun _ => stL (shSt v0 v1 v2 ⟨es, fs, o0, o1, [a0, a1, a2, a3]⟩ τE τF τ0 τ1)) ?_ fun _ => ?_
   ·refine aoR fun _ => ?_
    refine run ?_; rotate_left
    exact vV () leP leP
   refine uY (X := Stamp) (fun τ => tmL ((9, .int .i64 2) :: (10, .int .i64 1) :: (11, .int .i64 1) :: (12, .lo 12 τ 13 0 0) ::  shTm K B R v0 v1 v2)) (fun τ => stL ((12, (τ, ⟨13, [evRh (shEv 1 (K 2) 1 0 false [] [])]⟩)) :: shSt v0 v1 v2 ⟨es, fs, o0, o1, [a0, a1, a2, a3]⟩ τE τF τ0 τ1)) ?_ fun τ => ?_
   ·refine aoR fun _ => ?_
    refine run ?_; rotate_left
    rename_i v8
    exact vV (v8, 8) leP leP
   refine uY (X := Stamp × Stamp) (fun y => tmL ((9, .int .i64 2) :: (11, .int .i64 1) :: (12, .lo 12 τ 13 0 0) :: shTm K B R v0 v1 v2)) (fun y => stL ((12, (τ, ⟨13, [evRh (shEv 1 (K 2) 1 0 (shRl B 2) (shAd K B [a0, a1, a2, a3] 2) (shCt K B [a0, a1, a2, a3] 2))]⟩)) :: shSt v0 v1 v2 (shF B 2 ⟨es, fs, o0, o1, [a0, a1, a2, a3]⟩) y.1 y.2 τ0 τ1)) ?_ ?_
   ·refine run ?_
    refine aoR fun _ => ?_; refine run ?_
    refine cnd ?_ ?_
    refine uF fun _ => ?_; try omega
    refine uI fun _ => ?_; try omega
    refine run ?_; rotate_left
    rw [show shF B 2 ⟨es, fs, o0, o1, [a0, a1, a2, a3]⟩ = ⟨es, fs, o0, o1, [a0, a1, a2, a3]⟩ from if_neg (fun g => absurd g.1 (by decide)), show shRl B 2 = false from decide_eq_false (fun g => absurd g.1 (by decide)), show shAd K B [a0, a1, a2, a3] 2 = [] from if_neg (fun g => absurd g.1 (by decide)), show shCt K B [a0, a1, a2, a3] 2 = [] from if_neg (fun g => absurd g.1 (by decide))]
    exact vV (τE, τF) leP leP
   rintro ⟨τE, τF⟩
   dsimp only
   have ht1 : (shF B 2 ⟨es, fs, o0, o1, [a0, a1, a2, a3]⟩).o0 = o0 ∧ (shF B 2 ⟨es, fs, o0, o1, [a0, a1, a2, a3]⟩).o1 = o1 ∧ (shF B 2 ⟨es, fs, o0, o1, [a0, a1, a2, a3]⟩).a = [a0, a1, a2, a3] ∧ (shF B 2 ⟨es, fs, o0, o1, [a0, a1, a2, a3]⟩).es.length ≤ es.length + 1 ∧ (shF B 2 ⟨es, fs, o0, o1, [a0, a1, a2, a3]⟩).fs.length ≤ fs.length + 1 := by unfold shF; split <;> simp
   generalize ht : shF B 2 ⟨es, fs, o0, o1, [a0, a1, a2, a3]⟩ = t at ht1
   generalize hrl : shRl B 2 = rl
   generalize had : shAd K B [a0, a1, a2, a3] 2 = ad
   generalize hct : shCt K B [a0, a1, a2, a3] 2 = ct
   obtain ⟨es', fs', p0, p1, b⟩ := t
   dsimp only at ht1
   obtain ⟨rfl, rfl, rfl, q1, q2⟩ := ht1
   refine uY (X := Unit) (fun _ => tmL ((9, .int .i64 2) :: (11, .int .i64 1) :: (12, .lo 12 τ 13 0 0) :: shTm K B R v0 v1 v2)) (fun _ => stL ((12, (τ, ⟨13, [evRh (shEv 1 (K 2) 1 0 rl ad ct)]⟩)) :: shSt v0 v1 v2 ⟨es', fs', p0, p1, [a0, a1, (es'.length : Int), a3]⟩ τE τF τ0 τ1)) ?_ fun _ => ?_
   ·refine aoR fun _ => ?_
    refine run ?_; rotate_left
    exact vV () leP leP
   refine uY (X := Stamp) (fun _ => tmL ((9, .int .i64 2) :: (11, .int .i64 1) :: (12, .lo 12 τ 13 0 0) :: shTm K B R v0 v1 v2)) (fun y => stL ((12, (τ, ⟨13, [evRh (shEv 1 (K 2) 1 (shVal K 2) rl ad ct)]⟩)) :: shSt v0 v1 v2 (shO K 2 ⟨es', fs', p0, p1, [a0, a1, a2, a3]⟩) τE τF τ0 y)) ?_ fun y => ?_
   ·refine run ?_
    refine aoR fun _ => ?_; refine run ?_
    refine cnd ?_ ?_
    refine uF fun _ => ?_; try omega
    refine run ?_; refine aoR fun _ => ?_
    refine run ?_
    refine uO (E := E) ?_ (fun _ => ?_); exact rfl
    refine run ?_; rotate_left
    refine uI fun _ => ?_; try omega
    refine run ?_; rotate_left
    ·rename_i hk _ v25
     rw [show shVal K 2 = 1 + 2 from if_pos hk, show shO K 2 ⟨es', fs', p0, p1, [a0, a1, a2, a3]⟩ = ⟨es', fs', p0, p1 ++ [(es'.length : Int)], [a0, a1, (es'.length : Int), a3]⟩ from by unfold shO; rw [if_neg (fun g => absurd g.2 (by decide)), if_pos ⟨hk, rfl⟩]; rfl]
     exact vV (v25, 12) leP leS
    ·rename_i hk
     rw [show shVal K 2 = 0 from if_neg hk, show shO K 2 ⟨es', fs', p0, p1, [a0, a1, a2, a3]⟩ = ⟨es', fs', p0, p1, [a0, a1, (es'.length : Int), a3]⟩ from by unfold shO; rw [if_neg (fun g => hk g.1), if_neg (fun g => hk g.1)]; rfl]
     exact vV τ1 leP leP
   have hu1 : (shO K 2 ⟨es', fs', p0, p1, [a0, a1, a2, a3]⟩).es = es' ∧ (shO K 2 ⟨es', fs', p0, p1, [a0, a1, a2, a3]⟩).fs = fs' := ⟨rfl, rfl⟩
   generalize hu : shO K 2 ⟨es', fs', p0, p1, [a0, a1, a2, a3]⟩ = u at hu1
   generalize hvl : shVal K 2 = vl
   obtain ⟨es2, fs2, p2, p3, b⟩ := u
   dsimp only at hu1
   obtain ⟨rfl, rfl⟩ := hu1
   refine run ?_; refine aoR fun _ => ?_
   refine run ?_; refine aoR fun _ => ?_
   refine run ?_; refine aoR fun _ => ?_
   refine run ?_; rotate_left
   rename_i v26 v27 _
   refine uV (3, ⟨es2 ++ [shEv 1 (K 2) 1 vl rl ad ct], fs2 ++ [-1], p2, p3, b⟩, (v26, 4), (v27, 3), τ0, y) ⟨by dsimp only; omega, ?_⟩ (by dsimp only; omega) leP leS
   show _ = shStep K B 2 (shTo K B 2)
   rw [← hs]
   unfold shStep
   rw [ht, hu]
   dsimp only
   rw [hrl, had, hct, hvl]
   rfl
  ·-- round 3
   have k116 : KeyOf 116 20 := ⟨trivial⟩
   have hm2 : Int.tmod 3 2 = 1 := rfl
   refine uY (X := Unit) (fun _ => tmL ((9, .int .i64 3) :: (10, .int .i64 1) ::  shTm K B R v0 v1 v2)) (fun _ => stL (shSt v0 v1 v2 ⟨es, fs, o0, o1, [a0, a1, a2, a3]⟩ τE τF τ0 τ1)) ?_ fun _ => ?_
   ·refine aoR fun _ => ?_
    refine run ?_; rotate_left
    exact vV () leP leP
   refine uY (X := Unit) (fun _ => tmL ((9, .int .i64 3) :: (10, .int .i64 1) :: (11, .int .i64 0) ::  shTm K B R v0 v1 v2)) (fun _ => stL (shSt v0 v1 v2 ⟨es, fs, o0, o1, [a0, a1, a2, a3]⟩ τE τF τ0 τ1)) ?_ fun _ => ?_
   ·refine aoR fun _ => ?_
    refine run ?_; rotate_left
    exact vV () leP leP
   refine uY (X := Stamp) (fun τ => tmL ((9, .int .i64 3) :: (10, .int .i64 1) :: (11, .int .i64 0) :: (12, .lo 12 τ 13 0 0) ::  shTm K B R v0 v1 v2)) (fun τ => stL ((12, (τ, ⟨13, [evRh (shEv 1 (K 3) 0 0 false [] [])]⟩)) :: shSt v0 v1 v2 ⟨es, fs, o0, o1, [a0, a1, a2, a3]⟩ τE τF τ0 τ1)) ?_ fun τ => ?_
   ·refine aoR fun _ => ?_
    refine run ?_; rotate_left
    rename_i v8
    exact vV (v8, 8) leP leP
   refine uY (X := Stamp × Stamp) (fun y => tmL ((9, .int .i64 3) :: (11, .int .i64 0) :: (12, .lo 12 τ 13 0 0) :: shTm K B R v0 v1 v2)) (fun y => stL ((12, (τ, ⟨13, [evRh (shEv 1 (K 3) 0 0 (shRl B 3) (shAd K B [a0, a1, a2, a3] 3) (shCt K B [a0, a1, a2, a3] 3))]⟩)) :: shSt v0 v1 v2 (shF B 3 ⟨es, fs, o0, o1, [a0, a1, a2, a3]⟩) y.1 y.2 τ0 τ1)) ?_ ?_
   ·refine run ?_
    refine aoR fun _ => ?_; refine run ?_
    refine cnd ?_ ?_
    refine uF fun _ => ?_; try omega
    refine run ?_; refine aoR fun _ => ?_
    refine run ?_; refine aoR fun _ => ?_
    refine run ?_; refine cnd ?_ ?_
    refine uF fun _ => ?_; try omega
    refine run ?_; refine aoR fun _ => ?_
    refine run ?_; refine aoR fun _ => ?_
    refine run ?_; rotate_left
    refine uI fun _ => ?_; try omega
    refine run ?_; refine aoR fun _ => ?_
    refine run ?_; refine cnd ?_ ?_
    refine uF fun _ => ?_; try omega
    refine run ?_; refine aoR fun _ => ?_
    refine run ?_; refine cnd ?_ ?_
    refine uF fun _ => ?_; try omega
    refine aoR fun _ => ?_; refine run ?_
    rotate_left
    refine uI fun _ => ?_; try omega
    refine run ?_; rotate_left
    refine uI fun _ => ?_; try omega
    refine run ?_; refine aoR fun _ => ?_
    refine run ?_; refine cnd ?_ ?_
    refine uF fun _ => ?_; try omega
    refine run ?_; refine aoR fun _ => ?_
    refine run ?_; refine cnd ?_ ?_
    refine uF fun _ => ?_; try omega
    refine aoR fun _ => ?_; refine run ?_
    rotate_left
    refine uI fun _ => ?_; try omega
    refine run ?_; rotate_left
    refine uI fun _ => ?_; try omega
    refine run ?_; refine aoR fun _ => ?_
    refine run ?_; refine cnd ?_ ?_
    refine uF fun _ => ?_; try omega
    refine aoR fun _ => ?_; refine run ?_
    rotate_left
    refine uI fun _ => ?_; try omega
    refine run ?_; rotate_left
    refine uI fun _ => ?_; try omega
    ·rw [fY (B := B) (i := 3) (h := 1) rfl rfl (by omega), rN (B := B) (i := 3) (h := 1) rfl rfl (by omega), aN (K := K) (B := B) (i := 3) (h := 1) (p := 2) rfl rfl rfl (by omega), cN (K := K) (B := B) (i := 3) (h := 1) (p := 2) rfl rfl rfl (by omega)]
     rename_i v12 v13
     exact vV ((v12, 5), (v13, 3)) leP leS
    ·rw [fN (B := B) (i := 3) (h := 1) rfl rfl (by omega), rN (B := B) (i := 3) (h := 1) rfl rfl (by omega), aY (K := K) (B := B) (i := 3) (h := 1) (p := 2) rfl rfl rfl (by omega), cN (K := K) (B := B) (i := 3) (h := 1) (p := 2) rfl rfl rfl (by omega)]
     exact vV (τE, τF) leP leP
    ·rw [fN (B := B) (i := 3) (h := 1) rfl rfl (by omega), rN (B := B) (i := 3) (h := 1) rfl rfl (by omega), aN (K := K) (B := B) (i := 3) (h := 1) (p := 2) rfl rfl rfl (by omega), cN (K := K) (B := B) (i := 3) (h := 1) (p := 2) rfl rfl rfl (by omega)]
     exact vV (τE, τF) leP leP
    ·rw [fN (B := B) (i := 3) (h := 1) rfl rfl (by omega), rN (B := B) (i := 3) (h := 1) rfl rfl (by omega), aN (K := K) (B := B) (i := 3) (h := 1) (p := 2) rfl rfl rfl (by omega), cY (K := K) (B := B) (i := 3) (h := 1) (p := 2) rfl rfl rfl (by omega)]
     exact vV (τE, τF) leP leP
    ·rw [fN (B := B) (i := 3) (h := 1) rfl rfl (by omega), rN (B := B) (i := 3) (h := 1) rfl rfl (by omega), aN (K := K) (B := B) (i := 3) (h := 1) (p := 2) rfl rfl rfl (by omega), cN (K := K) (B := B) (i := 3) (h := 1) (p := 2) rfl rfl rfl (by omega)]
     exact vV (τE, τF) leP leP
    ·rw [fN (B := B) (i := 3) (h := 1) rfl rfl (by omega), rY (B := B) (i := 3) (h := 1) rfl rfl (by omega), aN (K := K) (B := B) (i := 3) (h := 1) (p := 2) rfl rfl rfl (by omega), cN (K := K) (B := B) (i := 3) (h := 1) (p := 2) rfl rfl rfl (by omega)]
     exact vV (τE, τF) leP leP
    ·rw [fN (B := B) (i := 3) (h := 1) rfl rfl (by omega), rN (B := B) (i := 3) (h := 1) rfl rfl (by omega), aN (K := K) (B := B) (i := 3) (h := 1) (p := 2) rfl rfl rfl (by omega), cN (K := K) (B := B) (i := 3) (h := 1) (p := 2) rfl rfl rfl (by omega)]
     exact vV (τE, τF) leP leP
   rintro ⟨τE, τF⟩
   dsimp only
   have ht1 : (shF B 3 ⟨es, fs, o0, o1, [a0, a1, a2, a3]⟩).o0 = o0 ∧ (shF B 3 ⟨es, fs, o0, o1, [a0, a1, a2, a3]⟩).o1 = o1 ∧ (shF B 3 ⟨es, fs, o0, o1, [a0, a1, a2, a3]⟩).a = [a0, a1, a2, a3] ∧ (shF B 3 ⟨es, fs, o0, o1, [a0, a1, a2, a3]⟩).es.length ≤ es.length + 1 ∧ (shF B 3 ⟨es, fs, o0, o1, [a0, a1, a2, a3]⟩).fs.length ≤ fs.length + 1 := by unfold shF; split <;> simp
   generalize ht : shF B 3 ⟨es, fs, o0, o1, [a0, a1, a2, a3]⟩ = t at ht1
   generalize hrl : shRl B 3 = rl
   generalize had : shAd K B [a0, a1, a2, a3] 3 = ad
   generalize hct : shCt K B [a0, a1, a2, a3] 3 = ct
   obtain ⟨es', fs', p0, p1, b⟩ := t
   dsimp only at ht1
   obtain ⟨rfl, rfl, rfl, q1, q2⟩ := ht1
   refine uY (X := Unit) (fun _ => tmL ((9, .int .i64 3) :: (11, .int .i64 0) :: (12, .lo 12 τ 13 0 0) :: shTm K B R v0 v1 v2)) (fun _ => stL ((12, (τ, ⟨13, [evRh (shEv 1 (K 3) 0 0 rl ad ct)]⟩)) :: shSt v0 v1 v2 ⟨es', fs', p0, p1, [a0, a1, a2, (es'.length : Int)]⟩ τE τF τ0 τ1)) ?_ fun _ => ?_
   ·refine aoR fun _ => ?_
    refine run ?_; rotate_left
    exact vV () leP leP
   refine uY (X := Stamp) (fun _ => tmL ((9, .int .i64 3) :: (11, .int .i64 0) :: (12, .lo 12 τ 13 0 0) :: shTm K B R v0 v1 v2)) (fun y => stL ((12, (τ, ⟨13, [evRh (shEv 1 (K 3) 0 (shVal K 3) rl ad ct)]⟩)) :: shSt v0 v1 v2 (shO K 3 ⟨es', fs', p0, p1, [a0, a1, a2, a3]⟩) τE τF y τ1)) ?_ fun y => ?_
   ·refine run ?_
    refine aoR fun _ => ?_; refine run ?_
    refine cnd ?_ ?_
    refine uF fun _ => ?_; try omega
    refine run ?_; refine aoR fun _ => ?_
    refine run ?_
    refine uO (E := E) ?_ (fun _ => ?_); exact rfl
    refine run ?_; rotate_left
    refine uI fun _ => ?_; try omega
    refine run ?_; rotate_left
    ·rename_i hk _ v25
     rw [show shVal K 3 = 1 + 3 from if_pos hk, show shO K 3 ⟨es', fs', p0, p1, [a0, a1, a2, a3]⟩ = ⟨es', fs', p0 ++ [(es'.length : Int)], p1, [a0, a1, a2, (es'.length : Int)]⟩ from by unfold shO; rw [if_pos ⟨hk, rfl⟩, if_neg (fun g => absurd g.2 (by decide))]; rfl]
     exact vV (v25, 12) leP leS
    ·rename_i hk
     rw [show shVal K 3 = 0 from if_neg hk, show shO K 3 ⟨es', fs', p0, p1, [a0, a1, a2, a3]⟩ = ⟨es', fs', p0, p1, [a0, a1, a2, (es'.length : Int)]⟩ from by unfold shO; rw [if_neg (fun g => hk g.1), if_neg (fun g => hk g.1)]; rfl]
     exact vV τ0 leP leP
   have hu1 : (shO K 3 ⟨es', fs', p0, p1, [a0, a1, a2, a3]⟩).es = es' ∧ (shO K 3 ⟨es', fs', p0, p1, [a0, a1, a2, a3]⟩).fs = fs' := ⟨rfl, rfl⟩
   generalize hu : shO K 3 ⟨es', fs', p0, p1, [a0, a1, a2, a3]⟩ = u at hu1
   generalize hvl : shVal K 3 = vl
   obtain ⟨es2, fs2, p2, p3, b⟩ := u
   dsimp only at hu1
   obtain ⟨rfl, rfl⟩ := hu1
   refine run ?_; refine aoR fun _ => ?_
   refine run ?_; refine aoR fun _ => ?_
   refine run ?_; refine aoR fun _ => ?_
   refine run ?_; rotate_left
   rename_i v26 v27 _
   refine uV (4, ⟨es2 ++ [shEv 1 (K 3) 0 vl rl ad ct], fs2 ++ [-1], p2, p3, b⟩, (v26, 4), (v27, 3), y, τ1) ⟨by dsimp only; omega, ?_⟩ (by dsimp only; omega) leP leS
   show _ = shStep K B 3 (shTo K B 3)
   rw [← hs]
   unfold shStep
   rw [ht, hu]
   dsimp only
   rw [hrl, had, hct, hvl]
   rfl
 ·rintro ⟨τE, τF, τ0, τ1⟩ _
  dsimp only
  refine run ?_; refine aoR fun _ => ?_
  refine run ?_; rotate_left
  refine uT (X := Nat × ShS) (fun y => tmL ((13, .int .i64 y.1) :: shTm K B R v0 v1 v2)) (fun y => stL (shSt v0 v1 v2 y.2 τE τF τ0 τ1)) (fun y => y.1 ≤ 4 ∧ y.2 = shRd K B R y.1) (fun y => 4 - y.1) (0, shRd K B R 0) ⟨Nat.zero_le _, rfl⟩ leP leP ?_
  rintro ⟨i, s⟩ ⟨hi, hs⟩
  dsimp only at hi hs ⊢
  by_cases h4 : i = 4
  ·subst h4
   rw [← hs]
   have z18 : FzR (s.es.map evRh) (s.es.map evTV) := FzR.of (f := evRh) (g := evTV) (fun _ => rfl) _
   have z19 := FzR.ints s.fs
   have z20 := FzR.ints s.o0
   have z21 := FzR.ints s.o1
   refine wN 20 τ0 1 (s.o0.map cell) (tmL (fzT v0 v1)) (stL [fz6 v0, fz7 v1 (.os 18 τE 13 s.es.length) (.os 19 τF 1 s.fs.length) (.os 22 (v1, 6) 1 2), (18, (τE, ⟨13, s.es.map evRh⟩)), (19, (τF, ⟨1, s.fs.map (cellO .i64)⟩)), (22, ((v1, 6), ⟨1, [[.d (ints s.o0)], [.os 21 τ1 1 s.o1.length]]⟩)), (21, (τ1, ⟨1, s.o1.map (cellO .i64)⟩))]) (by rw [← z20.eq]; rfl) (by repeat' (first | exact xC | exact yD | exact yO | exact yN | refine vJ rfl (.same _) ?_ | refine vJ rfl (vS (by simp)) ?_ | refine wB (by decide) rfl (FrozR.same _) ?_ | refine wB (by decide) rfl ?_ ?_ | refine wA xT ?_ | refine wA ?_ ?_ | refine vK (.same _) ?_ | refine vK (vS (by first | rfl | simp)) ?_ | refine vK (.nil _) ?_)) (by repeat' (first | exact xC | exact yD | exact yO | exact yN | refine vJ rfl (.same _) ?_ | refine vJ rfl (vS (by simp)) ?_ | refine wB (by decide) rfl (FrozR.same _) ?_ | refine wB (by decide) rfl ?_ ?_ | refine wA xT ?_ | refine wA ?_ ?_ | refine vK (.same _) ?_ | refine vK (vS (by first | rfl | simp)) ?_ | refine vK (.nil _) ?_)) ?_
   refine wN 21 τ1 1 (s.o1.map cell) (tmL (fzT v0 v1)) (stL [fz6 v0, fz7 v1 (.os 18 τE 13 s.es.length) (.os 19 τF 1 s.fs.length) (.os 22 (v1, 6) 1 2), (18, (τE, ⟨13, s.es.map evRh⟩)), (19, (τF, ⟨1, s.fs.map (cellO .i64)⟩)), (22, ((v1, 6), ⟨1, [[.d (ints s.o0)], [.d (ints s.o1)]]⟩))]) (by rw [← z21.eq]; rfl) (by repeat' (first | exact xC | exact yD | exact yO | exact yN | refine vJ rfl (.same _) ?_ | refine vJ rfl (vS (by simp)) ?_ | refine wB (by decide) rfl (FrozR.same _) ?_ | refine wB (by decide) rfl ?_ ?_ | refine wA xT ?_ | refine wA ?_ ?_ | refine vK (.same _) ?_ | refine vK (vS (by first | rfl | simp)) ?_ | refine vK (.nil _) ?_)) (by repeat' (first | exact xC | exact yD | exact yO | exact yN | refine vJ rfl (.same _) ?_ | refine vJ rfl (vS (by simp)) ?_ | refine wB (by decide) rfl (FrozR.same _) ?_ | refine wB (by decide) rfl ?_ ?_ | refine wA xT ?_ | refine wA ?_ ?_ | refine vK (.same _) ?_ | refine vK (vS (by first | rfl | simp)) ?_ | refine vK (.nil _) ?_)) ?_
   refine wN 22 (v1, 6) 1 [[ints s.o0], [ints s.o1]] (tmL (fzT v0 v1)) (stL [fz6 v0, fz7 v1 (.os 18 τE 13 s.es.length) (.os 19 τF 1 s.fs.length) (.d (rowsTV s.ex.order)), (18, (τE, ⟨13, s.es.map evRh⟩)), (19, (τF, ⟨1, s.fs.map (cellO .i64)⟩))]) rfl (by repeat' (first | exact xC | exact yD | exact yO | exact yN | refine vJ rfl (.same _) ?_ | refine vJ rfl (vS (by simp)) ?_ | refine wB (by decide) rfl (FrozR.same _) ?_ | refine wB (by decide) rfl ?_ ?_ | refine wA xT ?_ | refine wA ?_ ?_ | refine vK (.same _) ?_ | refine vK (vS (by first | rfl | simp)) ?_ | refine vK (.nil _) ?_)) (by repeat' (first | exact xC | exact yD | exact yO | exact yN | refine vJ rfl (.same _) ?_ | refine vJ rfl (vS (by simp)) ?_ | refine wB (by decide) rfl (FrozR.same _) ?_ | refine wB (by decide) rfl ?_ ?_ | refine wA xT ?_ | refine wA ?_ ?_ | refine vK (.same _) ?_ | refine vK (vS (by first | rfl | simp)) ?_ | refine vK (.nil _) ?_)) ?_
   refine wN 18 τE 13 (s.es.map evTV) (tmL (fzT v0 v1)) (stL [fz6 v0, fz7 v1 (.d (evsTV s.es)) (.os 19 τF 1 s.fs.length) (.d (rowsTV s.ex.order)), (19, (τF, ⟨1, s.fs.map (cellO .i64)⟩))]) (by rw [← z18.eq]; rfl) (by repeat' (first | exact xC | exact yD | exact yO | exact yN | refine vJ rfl (.same _) ?_ | refine vJ rfl (vS (by simp)) ?_ | refine wB (by decide) rfl (FrozR.same _) ?_ | refine wB (by decide) rfl ?_ ?_ | refine wA xT ?_ | refine wA ?_ ?_ | refine vK (.same _) ?_ | refine vK (vS (by first | rfl | simp)) ?_ | refine vK (.nil _) ?_)) (by repeat' (first | exact xC | exact yD | exact yO | exact yN | refine vJ rfl (.same _) ?_ | refine vJ rfl (vS (by simp)) ?_ | refine wB (by decide) rfl (FrozR.same _) ?_ | refine wB (by decide) rfl ?_ ?_ | refine wA xT ?_ | refine wA ?_ ?_ | refine vK (.same _) ?_ | refine vK (vS (by first | rfl | simp)) ?_ | refine vK (.nil _) ?_)) ?_
   refine wN 19 τF 1 (s.fs.map cell) (tmL (fzT v0 v1)) (stL [fz6 v0, fz7 v1 (.d (evsTV s.ex.evs)) (.d (ints s.ex.from_)) (.d (rowsTV s.ex.order))]) (by rw [← z19.eq]; rfl) (by repeat' (first | exact xC | exact yD | exact yO | exact yN | refine vJ rfl (.same _) ?_ | refine vJ rfl (vS (by simp)) ?_ | refine wB (by decide) rfl (FrozR.same _) ?_ | refine wB (by decide) rfl ?_ ?_ | refine wA xT ?_ | refine wA ?_ ?_ | refine vK (.same _) ?_ | refine vK (vS (by first | rfl | simp)) ?_ | refine vK (.nil _) ?_)) (by repeat' (first | exact xC | exact yD | exact yO | exact yN | refine vJ rfl (.same _) ?_ | refine vJ rfl (vS (by simp)) ?_ | refine wB (by decide) rfl (FrozR.same _) ?_ | refine wB (by decide) rfl ?_ ?_ | refine wA xT ?_ | refine wA ?_ ?_ | refine vK (.same _) ?_ | refine vK (vS (by first | rfl | simp)) ?_ | refine vK (.nil _) ?_)) ?_
   refine run ?_; refine aoR fun _ => ?_
   refine run ?_; refine cnd ?_ ?_
   refine uF fun _ => ?_; try omega
   refine uI fun _ => ?_; try omega
   refine run ?_; refine aoR fun _ => ?_
   refine run ?_; rotate_left
   exact sF rfl rfl rfl rfl rfl rfl
  have hok := hOk i (by omega)
  rw [← hs] at hok
  unfold shRdOk at hok
  simp only [Bool.and_eq_true, decide_eq_true_eq] at hok
  obtain ⟨⟨⟨⟨⟨⟨⟨l1, l2⟩, l5⟩, g0⟩, g1⟩, g2⟩, g3⟩, g4⟩ := hok
  obtain ⟨a0, a1, a2, a3, ha⟩ := uAQ l5
  obtain ⟨es, fs, o0, o1, a⟩ := s
  dsimp only at l1 l2 l5 ha
  subst ha
  refine uY (X := Unit) (fun _ => tmL ((13, .int .i64 i) :: shTm K B R v0 v1 v2)) (fun _ => stL (shSt v0 v1 v2 ⟨es, fs, o0, o1, [a0, a1, a2, a3]⟩ τE τF τ0 τ1)) ?_ fun _ => ?_
  ·refine run ?_
   refine aoR fun _ => ?_; refine run ?_
   refine cnd ?_ ?_
   refine uF fun _ => ?_; try omega
   refine run ?_; rotate_left
   refine uI fun _ => ?_; try omega
   exact vV () leP leP
  refine uB (uW ?_)
  have h03 : i = 0 ∨ i = 1 ∨ i = 2 ∨ i = 3 := by omega
  rcases h03 with rfl | rfl | rfl | rfl
  ·have g0 : 0 ≤ a0 := g0
   obtain ⟨n, rfl⟩ := Int.eq_ofNat_of_zero_le g0
   have g1 : n < es.length := g1
   have g3 : 0 ≤ o0.getD 1 0 := g3
   have g4 : o0.length ≤ 8 := g4
   have hw : Int.tmod (0 + IntKind.i64.wrap (Int.tdiv 0 2)) 2 = 0 := by decide
   have hd : IntKind.i64.wrap (Int.tdiv 0 2) = 0 := by decide
   have g1f : n < fs.length := by omega
   have g1p : n < (⟨es, fs, o0, o1, [((n : Nat) : Int), a1, a2, a3]⟩ : ShS).fs.length := g1f
   have g1q : n < (⟨es, fs, o0, o1, [((n : Nat) : Int), a1, a2, a3]⟩ : ShS).es.length := g1
   have l1q : (⟨es, fs, o0, o1, [((n : Nat) : Int), a1, a2, a3]⟩ : ShS).es.length ≤ 8 := l1
   have l2q : (⟨es, fs, o0, o1, [((n : Nat) : Int), a1, a2, a3]⟩ : ShS).fs.length = (⟨es, fs, o0, o1, [((n : Nat) : Int), a1, a2, a3]⟩ : ShS).es.length := l2
   have g4q : (⟨es, fs, o0, o1, [((n : Nat) : Int), a1, a2, a3]⟩ : ShS).o0.length ≤ 8 := g4
   refine uY (X := Unit) (fun _ => tmL ((13, .int .i64 0) :: (136, .bool (decide (K 0 = 1))) :: shTm K B R v0 v1 v2)) (fun _ => stL (shSt v0 v1 v2 ⟨es, fs, o0, o1, [((n : Nat) : Int), a1, a2, a3]⟩ τE τF τ0 τ1)) ?_ fun _ => ?_
   ·refine aoR fun _ => ?_
    refine run ?_; rotate_left
    exact vV () leP leP
   refine yZ rfl (fun hk => ?_) (fun hk => ?_)
   ·have hrd : shRead K R 0 ⟨es, fs, o0, o1, [((n : Nat) : Int), a1, a2, a3]⟩ = { (⟨es, fs, o0, o1, [((n : Nat) : Int), a1, a2, a3]⟩ : ShS) with fs := fs.set n (shSrc R 0 ⟨es, fs, o0, o1, [((n : Nat) : Int), a1, a2, a3]⟩), es := es.set n { es.getD n default with rval := (es.getD (shSrc R 0 ⟨es, fs, o0, o1, [((n : Nat) : Int), a1, a2, a3]⟩) default).val } } := if_pos hk
    refine uY (X := Unit) (fun _ => tmL ((13, .int .i64 0) :: (14, .int .i64 0) ::  shTm K B R v0 v1 v2)) (fun _ => stL (shSt v0 v1 v2 ⟨es, fs, o0, o1, [((n : Nat) : Int), a1, a2, a3]⟩ τE τF τ0 τ1)) ?_ fun _ => ?_
    ·refine aoR fun _ => ?_
     refine run ?_; rotate_left
     exact vV () (uL rfl (uR rfl hw leP)) leP
    refine uY (X := Unit) (fun _ => tmL ((13, .int .i64 0) :: (14, .int .i64 0) :: (15, .int .i64 0) ::  shTm K B R v0 v1 v2)) (fun _ => stL (shSt v0 v1 v2 ⟨es, fs, o0, o1, [((n : Nat) : Int), a1, a2, a3]⟩ τE τF τ0 τ1)) ?_ fun _ => ?_
    ·refine aoR fun _ => ?_
     refine run ?_; rotate_left
     exact vV () leP leP
    refine uY (X := Unit) (fun _ => tmL ((13, .int .i64 0) :: (15, .int .i64 (shSrc R 0 ⟨es, fs, o0, o1, [((n : Nat) : Int), a1, a2, a3]⟩)) ::  shTm K B R v0 v1 v2)) (fun _ => stL (shSt v0 v1 v2 ⟨es, fs, o0, o1, [((n : Nat) : Int), a1, a2, a3]⟩ τE τF τ0 τ1)) ?_ fun _ => ?_
    ·refine uK ?_
     refine aoR fun _ => ?_; refine uK ?_
     apply uD; exact rfl; exact rfl
     refine wQ (fun _ => ?_)
     refine uK ?_
     apply uD; exact rfl; exact rfl
     refine uJ ?_; refine uK ?_
     apply uD; exact rfl; exact rfl
     refine uJ ?_; refine uK ?_
     apply uD; exact rfl; exact rfl
     refine uJ ?_; refine uK ?_
     apply uD; exact rfl; exact rfl
     refine uJ ?_; refine uK ?_
     apply uD; exact rfl; exact rfl
     refine uJ ?_; refine uK ?_
     apply uD; exact rfl; exact rfl
     refine uJ ?_; refine uK ?_; refine cnd ?_ ?_; refine wX ?_; refine uJ ?_
     refine uF fun _ => ?_; try omega
     refine aoR fun _ => ?_; refine uK ?_
     rotate_left
     refine wK (fun hc_ => ?_); (try simp only [nrm] at hc_)
     refine uK ?_; rotate_left
     iterate 6 exact wH
     refine cI (fun _ => ?_)
     apply uD; exact rfl; exact rfl
     exact uH
     refine uG ?_
     apply uD; exact rfl; exact rfl
     exact uH
     refine uG ?_
     apply uD; exact rfl; exact rfl
     exact uH
     refine uG ?_
     apply uD; exact rfl; exact rfl
     exact uH
     refine uG ?_
     apply uD; exact rfl; exact rfl
     exact uH
     refine uG ?_
     apply uD; exact rfl; exact rfl
     exact uH
     refine uG ?_; refine uK ?_; refine cnd ?_ ?_
     exact uH
     refine uG ?_; refine uK ?_; rotate_left
     ·rename_i hR hl _
      rw [show shSrc R 0 ⟨es, fs, o0, o1, [((n : Nat) : Int), a1, a2, a3]⟩ = (o0.getD 1 0).toNat from if_pos ⟨hR, by have hl' : (1 : Int) < (o0.length : Int) := hl; show 1 < o0.length; omega⟩]
      exact vV () (uL rfl (uR rfl (Int.toNat_of_nonneg g3).symm leP)) leP
     ·rename_i hR
      rw [show shSrc R 0 ⟨es, fs, o0, o1, [((n : Nat) : Int), a1, a2, a3]⟩ = 0 from if_neg (fun g => by have g' : 1 < o0.length := g.2; rcases hc_ with h | h; cases h; omega)]
      exact vV () leP leP
     ·rename_i hR
      rw [show shSrc R 0 ⟨es, fs, o0, o1, [((n : Nat) : Int), a1, a2, a3]⟩ = 0 from if_neg (fun g => by rw [hR] at g; exact absurd g.1 (by decide))]
      exact vV () leP leP
    generalize shSrc R 0 ⟨es, fs, o0, o1, [((n : Nat) : Int), a1, a2, a3]⟩ = sr at hrd g2
    refine run ?_
    refine uO (E := E) ?_ (fun _ => ?_); exact rfl
    refine run ?_
    refine uO (E := E) ?_ (fun _ => ?_); exact rfl
    refine run ?_; refine aoR fun _ => ?_
    refine run ?_; rotate_left
    refine uV (1, ⟨es.set n { es.getD n default with rval := (es.getD sr default).val }, fs.set n sr, o0, o1, [((n : Nat) : Int), a1, a2, a3]⟩) ⟨by dsimp only; omega, ?_⟩ (by dsimp only; omega) leP (vH rfl (uS rfl (by simp only [List.length_set]) (uS rfl (by rw [List.map_set]; rfl) (uS rfl (List.map_set (f := cellO .i64)).symm leP))))
    show _ = shRead K R 0 (shRd K B R 0)
    rw [← hs, hrd]
   ·refine run ?_
    refine aoR fun _ => ?_; refine run ?_
    rotate_left
    refine uV (1, ⟨es, fs, o0, o1, [((n : Nat) : Int), a1, a2, a3]⟩) ⟨by dsimp only; omega, ?_⟩ (by dsimp only; omega) leP leP
    show _ = shRead K R 0 (shRd K B R 0)
    rw [← hs]
    exact (if_neg hk).symm
  ·have g0 : 0 ≤ a1 := g0
   obtain ⟨n, rfl⟩ := Int.eq_ofNat_of_zero_le g0
   have g1 : n < es.length := g1
   have g3 : 0 ≤ o1.getD 1 0 := g3
   have g4 : o1.length ≤ 8 := g4
   have hw : Int.tmod (1 + IntKind.i64.wrap (Int.tdiv 1 2)) 2 = 1 := by decide
   have hd : IntKind.i64.wrap (Int.tdiv 1 2) = 0 := by decide
   have g1f : n < fs.length := by omega
   have g1p : n < (⟨es, fs, o0, o1, [a0, ((n : Nat) : Int), a2, a3]⟩ : ShS).fs.length := g1f
   have g1q : n < (⟨es, fs, o0, o1, [a0, ((n : Nat) : Int), a2, a3]⟩ : ShS).es.length := g1
   have l1q : (⟨es, fs, o0, o1, [a0, ((n : Nat) : Int), a2, a3]⟩ : ShS).es.length ≤ 8 := l1
   have l2q : (⟨es, fs, o0, o1, [a0, ((n : Nat) : Int), a2, a3]⟩ : ShS).fs.length = (⟨es, fs, o0, o1, [a0, ((n : Nat) : Int), a2, a3]⟩ : ShS).es.length := l2
   have g4q : (⟨es, fs, o0, o1, [a0, ((n : Nat) : Int), a2, a3]⟩ : ShS).o1.length ≤ 8 := g4
   refine uY (X := Unit) (fun _ => tmL ((13, .int .i64 1) :: (136, .bool (decide (K 1 = 1))) :: shTm K B R v0 v1 v2)) (fun _ => stL (shSt v0 v1 v2 ⟨es, fs, o0, o1, [a0, ((n : Nat) : Int), a2, a3]⟩ τE τF τ0 τ1)) ?_ fun _ => ?_
   ·refine aoR fun _ => ?_
    refine run ?_; rotate_left
    exact vV () leP leP
   refine yZ rfl (fun hk => ?_) (fun hk => ?_)
   ·have hrd : shRead K R 1 ⟨es, fs, o0, o1, [a0, ((n : Nat) : Int), a2, a3]⟩ = { (⟨es, fs, o0, o1, [a0, ((n : Nat) : Int), a2, a3]⟩ : ShS) with fs := fs.set n (shSrc R 1 ⟨es, fs, o0, o1, [a0, ((n : Nat) : Int), a2, a3]⟩), es := es.set n { es.getD n default with rval := (es.getD (shSrc R 1 ⟨es, fs, o0, o1, [a0, ((n : Nat) : Int), a2, a3]⟩) default).val } } := if_pos hk
    refine uY (X := Unit) (fun _ => tmL ((13, .int .i64 1) :: (14, .int .i64 1) ::  shTm K B R v0 v1 v2)) (fun _ => stL (shSt v0 v1 v2 ⟨es, fs, o0, o1, [a0, ((n : Nat) : Int), a2, a3]⟩ τE τF τ0 τ1)) ?_ fun _ => ?_
    ·refine aoR fun _ => ?_
     refine run ?_; rotate_left
     exact vV () (uL rfl (uR rfl hw leP)) leP
    refine uY (X := Unit) (fun _ => tmL ((13, .int .i64 1) :: (14, .int .i64 1) :: (15, .int .i64 1) ::  shTm K B R v0 v1 v2)) (fun _ => stL (shSt v0 v1 v2 ⟨es, fs, o0, o1, [a0, ((n : Nat) : Int), a2, a3]⟩ τE τF τ0 τ1)) ?_ fun _ => ?_
    ·refine aoR fun _ => ?_
     refine run ?_; rotate_left
     exact vV () leP leP
    refine uY (X := Unit) (fun _ => tmL ((13, .int .i64 1) :: (15, .int .i64 (shSrc R 1 ⟨es, fs, o0, o1, [a0, ((n : Nat) : Int), a2, a3]⟩)) ::  shTm K B R v0 v1 v2)) (fun _ => stL (shSt v0 v1 v2 ⟨es, fs, o0, o1, [a0, ((n : Nat) : Int), a2, a3]⟩ τE τF τ0 τ1)) ?_ fun _ => ?_
    ·refine uK ?_
     refine aoR fun _ => ?_; refine uK ?_
     apply uD; exact rfl; exact rfl
     refine wQ (fun _ => ?_)
     refine uK ?_
     apply uD; exact rfl; exact rfl
     refine uJ ?_; refine uK ?_
     apply uD; exact rfl; exact rfl
     refine uJ ?_; refine uK ?_
     apply uD; exact rfl; exact rfl
     refine uJ ?_; refine uK ?_
     apply uD; exact rfl; exact rfl
     refine uJ ?_; refine uK ?_
     apply uD; exact rfl; exact rfl
     refine uJ ?_; refine uK ?_
     apply uD; exact rfl; exact rfl
     refine uJ ?_; refine uK ?_; refine cnd ?_ ?_; refine wX ?_; refine uJ ?_
     refine uF fun _ => ?_; try omega
     refine aoR fun _ => ?_; refine uK ?_
     rotate_left
     refine wK (fun hc_ => ?_); (try simp only [nrm] at hc_)
     refine uK ?_; rotate_left
     iterate 6 exact wH
     refine cI (fun _ => ?_)
     apply uD; exact rfl; exact rfl
     exact uH
     refine uG ?_
     apply uD; exact rfl; exact rfl
     exact uH
     refine uG ?_
     apply uD; exact rfl; exact rfl
     exact uH
     refine uG ?_
     apply uD; exact rfl; exact rfl
     exact uH
     refine uG ?_
     apply uD; exact rfl; exact rfl
     exact uH
     refine uG ?_
     apply uD; exact rfl; exact rfl
     exact uH
     refine uG ?_; refine uK ?_; refine cnd ?_ ?_
     exact uH
     refine uG ?_; refine uK ?_; rotate_left
     ·rename_i hR hl _
      rw [show shSrc R 1 ⟨es, fs, o0, o1, [a0, ((n : Nat) : Int), a2, a3]⟩ = (o1.getD 1 0).toNat from if_pos ⟨hR, by have hl' : (1 : Int) < (o1.length : Int) := hl; show 1 < o1.length; omega⟩]
      exact vV () (uL rfl (uR rfl (Int.toNat_of_nonneg g3).symm leP)) leP
     ·rename_i hR
      rw [show shSrc R 1 ⟨es, fs, o0, o1, [a0, ((n : Nat) : Int), a2, a3]⟩ = 1 from if_neg (fun g => by have g' : 1 < o1.length := g.2; rcases hc_ with h | h; cases h; omega)]
      exact vV () leP leP
     ·rename_i hR
      rw [show shSrc R 1 ⟨es, fs, o0, o1, [a0, ((n : Nat) : Int), a2, a3]⟩ = 1 from if_neg (fun g => by rw [hR] at g; exact absurd g.1 (by decide))]
      exact vV () leP leP
    generalize shSrc R 1 ⟨es, fs, o0, o1, [a0, ((n : Nat) : Int), a2, a3]⟩ = sr at hrd g2
    refine run ?_
    refine uO (E := E) ?_ (fun _ => ?_); exact rfl
    refine run ?_
    refine uO (E := E) ?_ (fun _ => ?_); exact rfl
    refine run ?_; refine aoR fun _ => ?_
    refine run ?_; rotate_left
    refine uV (2, ⟨es.set n { es.getD n default with rval := (es.getD sr default).val }, fs.set n sr, o0, o1, [a0, ((n : Nat) : Int), a2, a3]⟩) ⟨by dsimp only; omega, ?_⟩ (by dsimp only; omega) leP (vH rfl (uS rfl (by simp only [List.length_set]) (uS rfl (by rw [List.map_set]; rfl) (uS rfl (List.map_set (f := cellO .i64)).symm leP))))
    show _ = shRead K R 1 (shRd K B R 1)
    rw [← hs, hrd]
   ·refine run ?_
    refine aoR fun _ => ?_; refine run ?_
    rotate_left
    refine uV (2, ⟨es, fs, o0, o1, [a0, ((n : Nat) : Int), a2, a3]⟩) ⟨by dsimp only; omega, ?_⟩ (by dsimp only; omega) leP leP
    show _ = shRead K R 1 (shRd K B R 1)
    rw [← hs]
    exact (if_neg hk).symm
  ·have g0 : 0 ≤ a2 := g0
   obtain ⟨n, rfl⟩ := Int.eq_ofNat_of_zero_le g0
   have g1 : n < es.length := g1
   have g3 : 0 ≤ o1.getD 1 0 := g3
   have g4 : o1.length ≤ 8 := g4
   have hw : Int.tmod (2 + IntKind.i64.wrap (Int.tdiv 2 2)) 2 = 1 := by decide
   have hd : IntKind.i64.wrap (Int.tdiv 2 2) = 1 := by decide
   have g1f : n < fs.length := by omega
   have g1p : n < (⟨es, fs, o0, o1, [a0, a1, ((n : Nat) : Int), a3]⟩ : ShS).fs.length := g1f
   have g1q : n < (⟨es, fs, o0, o1, [a0, a1, ((n : Nat) : Int), a3]⟩ : ShS).es.length := g1
   have l1q : (⟨es, fs, o0, o1, [a0, a1, ((n : Nat) : Int), a3]⟩ : ShS).es.length ≤ 8 := l1
   have l2q : (⟨es, fs, o0, o1, [a0, a1, ((n : Nat) : Int), a3]⟩ : ShS).fs.length = (⟨es, fs, o0, o1, [a0, a1, ((n : Nat) : Int), a3]⟩ : ShS).es.length := l2
   have g4q : (⟨es, fs, o0, o1, [a0, a1, ((n : Nat) : Int), a3]⟩ : ShS).o1.length ≤ 8 := g4
   refine uY (X := Unit) (fun _ => tmL ((13, .int .i64 2) :: (136, .bool (decide (K 2 = 1))) :: shTm K B R v0 v1 v2)) (fun _ => stL (shSt v0 v1 v2 ⟨es, fs, o0, o1, [a0, a1, ((n : Nat) : Int), a3]⟩ τE τF τ0 τ1)) ?_ fun _ => ?_
   ·refine aoR fun _ => ?_
    refine run ?_; rotate_left
    exact vV () leP leP
   refine yZ rfl (fun hk => ?_) (fun hk => ?_)
   ·have hrd : shRead K R 2 ⟨es, fs, o0, o1, [a0, a1, ((n : Nat) : Int), a3]⟩ = { (⟨es, fs, o0, o1, [a0, a1, ((n : Nat) : Int), a3]⟩ : ShS) with fs := fs.set n (shSrc R 2 ⟨es, fs, o0, o1, [a0, a1, ((n : Nat) : Int), a3]⟩), es := es.set n { es.getD n default with rval := (es.getD (shSrc R 2 ⟨es, fs, o0, o1, [a0, a1, ((n : Nat) : Int), a3]⟩) default).val } } := if_pos hk
    refine uY (X := Unit) (fun _ => tmL ((13, .int .i64 2) :: (14, .int .i64 1) ::  shTm K B R v0 v1 v2)) (fun _ => stL (shSt v0 v1 v2 ⟨es, fs, o0, o1, [a0, a1, ((n : Nat) : Int), a3]⟩ τE τF τ0 τ1)) ?_ fun _ => ?_
    ·refine aoR fun _ => ?_
     refine run ?_; rotate_left
     exact vV () (uL rfl (uR rfl hw leP)) leP
    refine uY (X := Unit) (fun _ => tmL ((13, .int .i64 2) :: (14, .int .i64 1) :: (15, .int .i64 1) ::  shTm K B R v0 v1 v2)) (fun _ => stL (shSt v0 v1 v2 ⟨es, fs, o0, o1, [a0, a1, ((n : Nat) : Int), a3]⟩ τE τF τ0 τ1)) ?_ fun _ => ?_
    ·refine aoR fun _ => ?_
     refine run ?_; rotate_left
     exact vV () leP leP
    refine uY (X := Unit) (fun _ => tmL ((13, .int .i64 2) :: (15, .int .i64 (shSrc R 2 ⟨es, fs, o0, o1, [a0, a1, ((n : Nat) : Int), a3]⟩)) ::  shTm K B R v0 v1 v2)) (fun _ => stL (shSt v0 v1 v2 ⟨es, fs, o0, o1, [a0, a1, ((n : Nat) : Int), a3]⟩ τE τF τ0 τ1)) ?_ fun _ => ?_
    ·refine uK ?_
     refine aoR fun _ => ?_; refine uK ?_
     apply uD; exact rfl; exact rfl
     refine wQ (fun _ => ?_)
     refine uK ?_
     apply uD; exact rfl; exact rfl
     refine uJ ?_; refine uK ?_
     apply uD; exact rfl; exact rfl
     refine uJ ?_; refine uK ?_
     apply uD; exact rfl; exact rfl
     refine uJ ?_; refine uK ?_
     apply uD; exact rfl; exact rfl
     refine uJ ?_; refine uK ?_
     apply uD; exact rfl; exact rfl
     refine uJ ?_; refine uK ?_
     apply uD; exact rfl; exact rfl
     refine uJ ?_; refine uK ?_; refine cnd ?_ ?_; refine wX ?_; refine uJ ?_
     refine uF fun _ => ?_; try omega
     refine aoR fun _ => ?_; refine uK ?_
     rotate_left
     refine wK (fun hc_ => ?_); (try simp only [nrm] at hc_)
     refine uK ?_; rotate_left
     iterate 6 exact wH
     refine cI (fun _ => ?_)
     apply uD; exact rfl; exact rfl
     exact uH
     refine uG ?_
     apply uD; exact rfl; exact rfl
     exact uH
     refine uG ?_
     apply uD; exact rfl; exact rfl
     exact uH
     refine uG ?_
     apply uD; exact rfl; exact rfl
     exact uH
     refine uG ?_
     apply uD; exact rfl; exact rfl
     exact uH
     refine uG ?_
     apply uD; exact rfl; exact rfl
     exact uH
     refine uG ?_; refine uK ?_; refine cnd ?_ ?_
     exact uH
     refine uG ?_; refine uK ?_; rotate_left
     ·rename_i hR hl _
      rw [show shSrc R 2 ⟨es, fs, o0, o1, [a0, a1, ((n : Nat) : Int), a3]⟩ = (o1.getD 1 0).toNat from if_pos ⟨hR, by have hl' : (1 : Int) < (o1.length : Int) := hl; show 1 < o1.length; omega⟩]
      exact vV () (uL rfl (uR rfl (Int.toNat_of_nonneg g3).symm leP)) leP
     ·rename_i hR
      rw [show shSrc R 2 ⟨es, fs, o0, o1, [a0, a1, ((n : Nat) : Int), a3]⟩ = 1 from if_neg (fun g => by have g' : 1 < o1.length := g.2; rcases hc_ with h | h; cases h; omega)]
      exact vV () leP leP
     ·rename_i hR
      rw [show shSrc R 2 ⟨es, fs, o0, o1, [a0, a1, ((n : Nat) : Int), a3]⟩ = 1 from if_neg (fun g => by rw [hR] at g; exact absurd g.1 (by decide))]
      exact vV () leP leP
    generalize shSrc R 2 ⟨es, fs, o0, o1, [a0, a1, ((n : Nat) : Int), a3]⟩ = sr at hrd g2
    refine run ?_
    refine uO (E := E) ?_ (fun _ => ?_); exact rfl
    refine run ?_
    refine uO (E := E) ?_ (fun _ => ?_); exact rfl
    refine run ?_; refine aoR fun _ => ?_
    refine run ?_; rotate_left
    refine uV (3, ⟨es.set n { es.getD n default with rval := (es.getD sr default).val }, fs.set n sr, o0, o1, [a0, a1, ((n : Nat) : Int), a3]⟩) ⟨by dsimp only; omega, ?_⟩ (by dsimp only; omega) leP (vH rfl (uS rfl (by simp only [List.length_set]) (uS rfl (by rw [List.map_set]; rfl) (uS rfl (List.map_set (f := cellO .i64)).symm leP))))
    show _ = shRead K R 2 (shRd K B R 2)
    rw [← hs, hrd]
   ·refine run ?_
    refine aoR fun _ => ?_; refine run ?_
    rotate_left
    refine uV (3, ⟨es, fs, o0, o1, [a0, a1, ((n : Nat) : Int), a3]⟩) ⟨by dsimp only; omega, ?_⟩ (by dsimp only; omega) leP leP
    show _ = shRead K R 2 (shRd K B R 2)
    rw [← hs]
    exact (if_neg hk).symm
  ·have g0 : 0 ≤ a3 := g0
   obtain ⟨n, rfl⟩ := Int.eq_ofNat_of_zero_le g0
   have g1 : n < es.length := g1
   have g3 : 0 ≤ o0.getD 1 0 := g3
   have g4 : o0.length ≤ 8 := g4
   have hw : Int.tmod (3 + IntKind.i64.wrap (Int.tdiv 3 2)) 2 = 0 := by decide
   have hd : IntKind.i64.wrap (Int.tdiv 3 2) = 1 := by decide
   have g1f : n < fs.length := by omega
   have g1p : n < (⟨es, fs, o0, o1, [a0, a1, a2, ((n : Nat) : Int)]⟩ : ShS).fs.length := g1f
   have g1q : n < (⟨es, fs, o0, o1, [a0, a1, a2, ((n : Nat) : Int)]⟩ : ShS).es.length := g1
   have l1q : (⟨es, fs, o0, o1, [a0, a1, a2, ((n : Nat) : Int)]⟩ : ShS).es.length ≤ 8 := l1
   have l2q : (⟨es, fs, o0, o1, [a0, a1, a2, ((n : Nat) : Int)]⟩ : ShS).fs.length = (⟨es, fs, o0, o1, [a0, a1, a2, ((n : Nat) : Int)]⟩ : ShS).es.length := l2
   have g4q : (⟨es, fs, o0, o1, [a0, a1, a2, ((n : Nat) : Int)]⟩ : ShS).o0.length ≤ 8 := g4
   refine uY (X := Unit) (fun _ => tmL ((13, .int .i64 3) :: (136, .bool (decide (K 3 = 1))) :: shTm K B R v0 v1 v2)) (fun _ => stL (shSt v0 v1 v2 ⟨es, fs, o0, o1, [a0, a1, a2, ((n : Nat) : Int)]⟩ τE τF τ0 τ1)) ?_ fun _ => ?_
   ·refine aoR fun _ => ?_
    refine run ?_; rotate_left
    exact vV () leP leP
   refine yZ rfl (fun hk => ?_) (fun hk => ?_)
   ·have hrd : shRead K R 3 ⟨es, fs, o0, o1, [a0, a1, a2, ((n : Nat) : Int)]⟩ = { (⟨es, fs, o0, o1, [a0, a1, a2, ((n : Nat) : Int)]⟩ : ShS) with fs := fs.set n (shSrc R 3 ⟨es, fs, o0, o1, [a0, a1, a2, ((n : Nat) : Int)]⟩), es := es.set n { es.getD n default with rval := (es.getD (shSrc R 3 ⟨es, fs, o0, o1, [a0, a1, a2, ((n : Nat) : Int)]⟩) default).val } } := if_pos hk
    refine uY (X := Unit) (fun _ => tmL ((13, .int .i64 3) :: (14, .int .i64 0) ::  shTm K B R v0 v1 v2)) (fun _ => stL (shSt v0 v1 v2 ⟨es, fs, o0, o1, [a0, a1, a2, ((n : Nat) : Int)]⟩ τE τF τ0 τ1)) ?_ fun _ => ?_
    ·refine aoR fun _ => ?_
     refine run ?_; rotate_left
     exact vV () (uL rfl (uR rfl hw leP)) leP
    refine uY (X := Unit) (fun _ => tmL ((13, .int .i64 3) :: (14, .int .i64 0) :: (15, .int .i64 0) ::  shTm K B R v0 v1 v2)) (fun _ => stL (shSt v0 v1 v2 ⟨es, fs, o0, o1, [a0, a1, a2, ((n : Nat) : Int)]⟩ τE τF τ0 τ1)) ?_ fun _ => ?_
    ·refine aoR fun _ => ?_
     refine run ?_; rotate_left
     exact vV () leP leP
    refine uY (X := Unit) (fun _ => tmL ((13, .int .i64 3) :: (15, .int .i64 (shSrc R 3 ⟨es, fs, o0, o1, [a0, a1, a2, ((n : Nat) : Int)]⟩)) ::  shTm K B R v0 v1 v2)) (fun _ => stL (shSt v0 v1 v2 ⟨es, fs, o0, o1, [a0, a1, a2, ((n : Nat) : Int)]⟩ τE τF τ0 τ1)) ?_ fun _ => ?_
    ·refine uK ?_
     refine aoR fun _ => ?_; refine uK ?_
     apply uD; exact rfl; exact rfl
     refine wQ (fun _ => ?_)
     refine uK ?_
     apply uD; exact rfl; exact rfl
     refine uJ ?_; refine uK ?_
     apply uD; exact rfl; exact rfl
     refine uJ ?_; refine uK ?_
     apply uD; exact rfl; exact rfl
     refine uJ ?_; refine uK ?_
     apply uD; exact rfl; exact rfl
     refine uJ ?_; refine uK ?_
     apply uD; exact rfl; exact rfl
     refine uJ ?_; refine uK ?_
     apply uD; exact rfl; exact rfl
     refine uJ ?_; refine uK ?_; refine cnd ?_ ?_; refine wX ?_; refine uJ ?_
     refine uF fun _ => ?_; try omega
     refine aoR fun _ => ?_; refine uK ?_
     rotate_left
     refine wK (fun hc_ => ?_); (try simp only [nrm] at hc_)
     refine uK ?_; rotate_left
     iterate 6 exact wH
     refine cI (fun _ => ?_)
     apply uD; exact rfl; exact rfl
     exact uH
     refine uG ?_
     apply uD; exact rfl; exact rfl
     exact uH
     refine uG ?_
     apply uD; exact rfl; exact rfl
     exact uH
     refine uG ?_
     apply uD; exact rfl; exact rfl
     exact uH
     refine uG ?_
     apply uD; exact rfl; exact rfl
     exact uH
     refine uG ?_
     apply uD; exact rfl; exact rfl
     exact uH
     refine uG ?_; refine uK ?_; refine cnd ?_ ?_
     exact uH
     refine uG ?_; refine uK ?_; rotate_left
     ·rename_i hR hl _
      rw [show shSrc R 3 ⟨es, fs, o0, o1, [a0, a1, a2, ((n : Nat) : Int)]⟩ = (o0.getD 1 0).toNat from if_pos ⟨hR, by have hl' : (1 : Int) < (o0.length : Int) := hl; show 1 < o0.length; omega⟩]
      exact vV () (uL rfl (uR rfl (Int.toNat_of_nonneg g3).symm leP)) leP
     ·rename_i hR
      rw [show shSrc R 3 ⟨es, fs, o0, o1, [a0, a1, a2, ((n : Nat) : Int)]⟩ = 0 from if_neg (fun g => by have g' : 1 < o0.length := g.2; rcases hc_ with h | h; cases h; omega)]
      exact vV () leP leP
     ·rename_i hR
      rw [show shSrc R 3 ⟨es, fs, o0, o1, [a0, a1, a2, ((n : Nat) : Int)]⟩ = 0 from if_neg (fun g => by rw [hR] at g; exact absurd g.1 (by decide))]
      exact vV () leP leP
    generalize shSrc R 3 ⟨es, fs, o0, o1, [a0, a1, a2, ((n : Nat) : Int)]⟩ = sr at hrd g2
    refine run ?_
    refine uO (E := E) ?_ (fun _ => ?_); exact rfl
    refine run ?_
    refine uO (E := E) ?_ (fun _ => ?_); exact rfl
    refine run ?_; refine aoR fun _ => ?_
    refine run ?_; rotate_left
    refine uV (4, ⟨es.set n { es.getD n default with rval := (es.getD sr default).val }, fs.set n sr, o0, o1, [a0, a1, a2, ((n : Nat) : Int)]⟩) ⟨by dsimp only; omega, ?_⟩ (by dsimp only; omega) leP (vH rfl (uS rfl (by simp only [List.length_set]) (uS rfl (by rw [List.map_set]; rfl) (uS rfl (List.map_set (f := cellO .i64)).symm leP))))
    show _ = shRead K R 3 (shRd K B R 3)
    rw [← hs, hrd]
   ·refine run ?_
    refine aoR fun _ => ?_; refine run ?_
    rotate_left
    refine uV (4, ⟨es, fs, o0, o1, [a0, a1, a2, ((n : Nat) : Int)]⟩) ⟨by dsimp only; omega, ?_⟩ (by dsimp only; omega) leP leP
    show _ = shRead K R 3 (shRd K B R 3)
    rw [← hs]
    exact (if_neg hk).symm
end Go.Proofs.YtnkocjkkefnelaaGreat
