/- Parts. -/
import Derived.Test.YtnkocjkkefnelaaGreatPp4
import Derived.Test.YtnkocjkkefnelaaGreatPp6
import Derived.Test.YtnkocjkkefnelaaGreatPp11
import Derived.Test.YtnkocjkkefnelaaGreatPp16
import Derived.Test.YtnkocjkkefnelaaGreatPp19
import Derived.Test.YtnkocjkkefnelaaGreatPp32
import Derived.Test.YtnkocjkkefnelaaGreatPp33
import Derived.Test.YtnkocjkkefnelaaGreatPp34
set_option linter.unusedVariables false
set_option linter.unusedSimpArgs false
set_option maxHeartbeats 4000000
set_option maxHeartbeats 4000000
set_option maxRecDepth 100000
namespace Go.Proofs.YtnkocjkkefnelaaGreat
open Go.RowKit
def ratR (x : Ex) (n : Nat) : Int := if (x.evs.getD n default).kind = 3 then (n : Int) else pairedI x n
def ratM (x : Ex) (n f m : Nat) : Bool := !decide ((x.evs.getD m default).hart = (x.evs.getD n default).hart) && isCoB x f m && isCoB x m n
def ratEv (x : Ex) (n : Nat) : Bool := decide (ratR x n < 0) || (List.range x.evs.length).all fun m => !ratM x n (x.from_.getD (ratR x n).toNat 0).toNat m
def ratB (x : Ex) : Bool := (List.range x.evs.length).all (ratEv x)
theorem mE {es : List Ev} (hb : ∀ i, (es.getD i default).rsv = true → (es.getD i default).kind = 1 ∨ (es.getD i default).kind = 2) (f : Ev) : ∀ k, 0 ≤ pairTo es f k → (es.getD (pairTo es f k).toNat default).ldB = true
 | 0, h => by unfold pairTo at h; omega
 | k + 1, h => by
  have ih := mE hb f k
  have hq := hb k
  unfold pairTo at h ⊢
  by_cases h1 : (es.getD k default).hart = f.hart
  ·rw [if_pos h1] at h ⊢
   by_cases h2 : (es.getD k default).rsv = true
   ·rw [if_pos h2] at h ⊢
    by_cases h3 : (es.getD k default).kind = 2
    ·rw [if_pos h3] at h; omega
    ·rw [if_neg h3] at h ⊢
     by_cases h4 : (es.getD k default).addr = f.addr
     ·rw [if_pos h4] at h ⊢
      rw [Int.toNat_natCast]
      unfold Ev.ldB
      have := (hq h2).resolve_right h3
      rw [this]; rfl
     ·rw [if_neg h4] at h; omega
   ·rw [if_neg h2] at h ⊢; exact ih h
  ·rw [if_neg h1] at h; omega
theorem rN {x : Ex} (hx : x.rel) {n : Nat} (hn : n < x.evs.length) (h : 0 ≤ ratR x n) : ratR x n ≤ n ∧ 0 ≤ x.from_.getD (ratR x n).toNat 0 ∧ x.from_.getD (ratR x n).toNat 0 < x.evs.length := by
 have hok := gI hx.fit.1 hx.check
 unfold ratR at h ⊢
 split
 ·rename_i h3
  refine ⟨Int.le_refl _, ?_⟩
  rw [Int.toNat_natCast]
  exact hx.src n hn (by unfold Ev.ldB; rw [h3]; rfl)
 ·rename_i h3
  rw [if_neg h3] at h
  unfold pairedI at h ⊢
  split
  ·rename_i h4
   rw [if_pos h4] at h
   have hb := gM x.evs (x.evs.getD n default) n
   refine ⟨by omega, hx.src _ (by omega) (mE hok.rsv _ _ h)⟩
  ·rename_i h4
   rw [if_neg h4] at h; omega
set_option maxHeartbeats 4000000 in
theorem mA (x : Ex) (hx : x.rel) : Pure E.P 20 [exOV x] (.bool (ratB x)) := by
 have f1 : Frozen 1 := ⟨trivial⟩
 have hl := hx.len
 have hlf := hx.from_
 have hok := gI hx.fit.1 hx.check
 refine fnA Tryz.func20 Tryz.ntmps20 ?_
 refine run ?_; refine aoR fun _ => ?_
 refine run ?_; refine aoR fun _ => ?_
 refine run ?_; rotate_left
 refine uS (X := Nat) (fun n => tmL [(1, .d (.pt (exRow x) 0)), (3, .int .i64 n)]) (fun _ => stL []) (fun n => n ≤ x.evs.length ∧ ∀ j, j < n → ratEv x j = true) (fun n => x.evs.length - n) 0 ⟨Nat.zero_le _, fun j hj => by omega⟩ leP leP ?_
 rintro n ⟨hn, hall⟩
 by_cases hlt : n < x.evs.length
 rotate_left
 ·refine run ?_
  refine aoR fun _ => ?_; refine run ?_
  refine cnd ?_ ?_
  refine uE fun _ => ?_; try (exfalso; omega)
  refine uG fun _ => ?_; try (exfalso; omega)
  refine run ?_; refine aoR fun _ => ?_
  refine run ?_; rotate_left
  refine uV rfl ?_
  unfold ratB
  refine (List.all_eq_true.2 fun j hj => hall j ?_).symm
  have := List.mem_range.1 hj
  omega
 have hnext : ratEv x n = true → ∀ j, j < n + 1 → ratEv x j = true := fun h j hj => by
  rcases Nat.lt_or_ge j n with e | e
  ·exact hall j e
  ·rw [show j = n by omega]; exact h
 have hP := lX x hok n hlt
 have hbd := fun h => rN hx hlt h
 by_cases hk : (x.evs.getD n default).kind = 3
 ·have hk' : (x.evs.getD (n : Int).toNat default).kind = 3 := hk
  have hR : ratR x n = (n : Int) := by unfold ratR; rw [if_pos hk]
  have hR0 : (0 : Int) ≤ (n : Int) := by omega
  rw [hR] at hbd
  refine run ?_; refine aoR fun _ => ?_
  refine run ?_; refine cnd ?_ ?_
  refine uE fun _ => ?_; try (exfalso; omega)
  refine run ?_; refine aoR fun _ => ?_
  refine run ?_
  apply uO; exact rfl; exact .fn _ _ _; exact rfl; exact hP
  refine run ?_; refine aoR fun _ => ?_
  refine run ?_; refine cnd ?_ ?_
  refine uE fun _ => ?_; try (exfalso; omega)
  refine aoR fun _ => ?_; refine run ?_
  refine aoR fun _ => ?_; refine run ?_
  refine cnd ?_ ?_
  refine uE fun _ => ?_; try (exfalso; omega)
  refine uG fun _ => ?_; try (exfalso; omega)
  refine run ?_; refine aoR fun _ => ?_
  refine run ?_; rotate_left
  iterate 2 refine uG fun _ => ?_; try (exfalso; omega)
  obtain ⟨hb1, hb2, hb3⟩ := hbd hR0
  obtain ⟨f, hf⟩ : ∃ f : Nat, x.from_.getD (((n : Nat) : Int)).toNat 0 = (f : Int) := ⟨_, (Int.toNat_of_nonneg hb2).symm⟩
  have hE : ratEv x n = (List.range x.evs.length).all fun m => !ratM x n f m := by
   unfold ratEv
   rw [hR, decide_eq_false (by omega), Bool.false_or, hf, Int.toNat_natCast]
  have hrf : 0 ≤ ((n : Nat) : Int) ∧ ((n : Nat) : Int) < x.from_.length := by omega
  refine uS (X := Nat) (fun m => tmL [(1, .d (.pt (exRow x) 0)), (3, .int .i64 n), (4, .int .i64 (((n : Nat) : Int))), (5, .int .i64 m)]) (fun _ => stL []) (fun m => m ≤ x.evs.length ∧ ∀ j, j < m → ratM x n f j = false) (fun m => x.evs.length - m) 0 ⟨Nat.zero_le _, fun j hj => by omega⟩ leP leP ?_
  rintro m ⟨hm, hms⟩
  by_cases hltm : m < x.evs.length
  rotate_left
  ·refine run ?_
   refine aoR fun _ => ?_; refine run ?_
   refine cnd ?_ ?_
   refine uE fun _ => ?_; try (exfalso; omega)
   refine uG fun _ => ?_; try (exfalso; omega)
   refine run ?_; refine aoR fun _ => ?_
   refine run ?_; rotate_left
   refine uY (n + 1) ⟨by omega, hnext ?_⟩ (by omega) leP leP
   rw [hE, List.all_eq_true]
   intro j hj
   have := List.mem_range.1 hj
   rw [hms j (by omega)]; rfl
  have c1 := aY x (by omega) hx.ord hx.rows f m (by omega) hltm
  have c2 := aY x (by omega) hx.ord hx.rows m n hltm hlt
  rw [← hf] at c1
  refine run ?_; refine aoR fun _ => ?_
  refine run ?_; refine cnd ?_ ?_
  refine uE fun _ => ?_; try (exfalso; omega)
  refine run ?_
  refine uU (E := E) ?_ (fun _ => ?_); exact rfl
  refine run ?_
  apply dpT; exact rfl
  intro hc_
  have hp_ := hc_; try simp only [nrm] at hp_
  apply vA; (exact EvM.plain rfl rfl); exact .fn _ _ _; exact vQ; (exact c1)
  refine run ?_
  apply dpT; exact rfl
  intro hc_
  have hp_ := hc_; try simp only [nrm] at hp_
  apply vA; (exact EvM.plain rfl rfl); exact .fn _ _ _; exact vQ; (exact c2)
  refine run ?_; refine cnd ?_ ?_
  iterate 2 refine xC ?_
  refine wL (fun _ => ?_); (try (exfalso; omega))
  iterate 2 (refine wQ (fun _ => ?_))
  refine run ?_; refine aoR fun _ => ?_
  refine run ?_; rotate_left
  refine wT (fun hc_ => ?_); (try simp only [nrm] at hc_)
  refine run ?_; refine aoR fun _ => ?_
  refine run ?_; rotate_left
  refine uG fun _ => ?_; try (exfalso; omega)
  ·rename_i g1 g2 g3 _
   have hM : ratM x n f m = true := by
    have g1' : ¬ (x.evs.getD m default).hart = (x.evs.getD n default).hart := g1
    unfold ratM
    rw [decide_eq_false g1', g2, g3]; rfl
   refine uV rfl ?_
   have he : ratEv x n = false := by
    rw [hE, List.all_eq_false]
    exact ⟨m, List.mem_range.2 hltm, by rw [hM]; decide⟩
   unfold ratB
   refine (List.all_eq_false.2 ⟨n, List.mem_range.2 hlt, by rw [he]; decide⟩).symm
  ·refine uY (m + 1) ⟨by omega, fun j hj => ?_⟩ (by omega) leP leP
   rcases Nat.lt_or_ge j m with e | e
   ·exact hms j e
   ·rw [show j = m by omega]
    have h9 := hc_
    simp only [Int.toNat_natCast] at h9
    cases hM : ratM x n f m with
    | false => rfl
    | true =>
     exfalso
     unfold ratM at hM
     simp only [Bool.and_eq_true, Bool.not_eq_true', decide_eq_false_iff_not] at hM
     obtain ⟨⟨g1, g2⟩, g3⟩ := hM
     rcases h9 with (h | h) | h
     ·exact g1 h
     ·rw [g2] at h; exact absurd h (by decide)
     ·rw [g3] at h; exact absurd h (by decide)
 ·have hk' : ¬ (x.evs.getD (n : Int).toNat default).kind = 3 := hk
  have hR : ratR x n = pairedI x n := by unfold ratR; rw [if_neg hk]
  by_cases hR0 : 0 ≤ pairedI x n
  ·rw [hR] at hbd
   refine run ?_; refine aoR fun _ => ?_
   refine run ?_; refine cnd ?_ ?_
   refine uE fun _ => ?_; try (exfalso; omega)
   refine run ?_; refine aoR fun _ => ?_
   refine run ?_
   apply uO; exact rfl; exact .fn _ _ _; exact rfl; exact hP
   refine run ?_; refine aoR fun _ => ?_
   refine run ?_; refine cnd ?_ ?_
   refine uE fun _ => ?_; try (exfalso; omega)
   refine uG fun _ => ?_; try (exfalso; omega)
   refine run ?_; refine aoR fun _ => ?_
   refine run ?_; refine cnd ?_ ?_
   refine uE fun _ => ?_; try (exfalso; omega)
   refine uG fun _ => ?_; try (exfalso; omega)
   refine run ?_; refine aoR fun _ => ?_
   refine run ?_; rotate_left
   refine uG fun _ => ?_; try (exfalso; omega)
   obtain ⟨hb1, hb2, hb3⟩ := hbd hR0
   obtain ⟨f, hf⟩ : ∃ f : Nat, x.from_.getD (pairedI x n).toNat 0 = (f : Int) := ⟨_, (Int.toNat_of_nonneg hb2).symm⟩
   have hE : ratEv x n = (List.range x.evs.length).all fun m => !ratM x n f m := by
    unfold ratEv
    rw [hR, decide_eq_false (by omega), Bool.false_or, hf, Int.toNat_natCast]
   have hrf : 0 ≤ pairedI x n ∧ pairedI x n < x.from_.length := by omega
   refine uS (X := Nat) (fun m => tmL [(1, .d (.pt (exRow x) 0)), (3, .int .i64 n), (4, .int .i64 (pairedI x n)), (5, .int .i64 m)]) (fun _ => stL []) (fun m => m ≤ x.evs.length ∧ ∀ j, j < m → ratM x n f j = false) (fun m => x.evs.length - m) 0 ⟨Nat.zero_le _, fun j hj => by omega⟩ leP leP ?_
   rintro m ⟨hm, hms⟩
   by_cases hltm : m < x.evs.length
   rotate_left
   ·refine run ?_
    refine aoR fun _ => ?_; refine run ?_
    refine cnd ?_ ?_
    refine uE fun _ => ?_; try (exfalso; omega)
    refine uG fun _ => ?_; try (exfalso; omega)
    refine run ?_; refine aoR fun _ => ?_
    refine run ?_; rotate_left
    refine uY (n + 1) ⟨by omega, hnext ?_⟩ (by omega) leP leP
    rw [hE, List.all_eq_true]
    intro j hj
    have := List.mem_range.1 hj
    rw [hms j (by omega)]; rfl
   have c1 := aY x (by omega) hx.ord hx.rows f m (by omega) hltm
   have c2 := aY x (by omega) hx.ord hx.rows m n hltm hlt
   rw [← hf] at c1
   refine run ?_; refine aoR fun _ => ?_
   refine run ?_; refine cnd ?_ ?_
   refine uE fun _ => ?_; try (exfalso; omega)
   refine run ?_
   refine uU (E := E) ?_ (fun _ => ?_); exact rfl
   refine run ?_
   apply dpT; exact rfl
   intro hc_
   have hp_ := hc_; try simp only [nrm] at hp_
   apply vA; (exact EvM.plain rfl rfl); exact .fn _ _ _; exact vQ; (exact c1)
   refine run ?_
   apply dpT; exact rfl
   intro hc_
   have hp_ := hc_; try simp only [nrm] at hp_
   apply vA; (exact EvM.plain rfl rfl); exact .fn _ _ _; exact vQ; (exact c2)
   refine run ?_; refine cnd ?_ ?_
   iterate 2 refine xC ?_
   refine wL (fun _ => ?_); (try (exfalso; omega))
   iterate 2 (refine wQ (fun _ => ?_))
   refine run ?_; refine aoR fun _ => ?_
   refine run ?_; rotate_left
   refine wT (fun hc_ => ?_); (try simp only [nrm] at hc_)
   refine run ?_; refine aoR fun _ => ?_
   refine run ?_; rotate_left
   refine uG fun _ => ?_; try (exfalso; omega)
   ·rename_i g1 g2 g3 _
    have hM : ratM x n f m = true := by
     have g1' : ¬ (x.evs.getD m default).hart = (x.evs.getD n default).hart := g1
     unfold ratM
     rw [decide_eq_false g1', g2, g3]; rfl
    refine uV rfl ?_
    have he : ratEv x n = false := by
     rw [hE, List.all_eq_false]
     exact ⟨m, List.mem_range.2 hltm, by rw [hM]; decide⟩
    unfold ratB
    refine (List.all_eq_false.2 ⟨n, List.mem_range.2 hlt, by rw [he]; decide⟩).symm
   ·refine uY (m + 1) ⟨by omega, fun j hj => ?_⟩ (by omega) leP leP
    rcases Nat.lt_or_ge j m with e | e
    ·exact hms j e
    ·rw [show j = m by omega]
     have h9 := hc_
     simp only [Int.toNat_natCast] at h9
     cases hM : ratM x n f m with
     | false => rfl
     | true =>
      exfalso
      unfold ratM at hM
      simp only [Bool.and_eq_true, Bool.not_eq_true', decide_eq_false_iff_not] at hM
      obtain ⟨⟨g1, g2⟩, g3⟩ := hM
      rcases h9 with (h | h) | h
      ·exact g1 h
      ·rw [g2] at h; exact absurd h (by decide)
      ·rw [g3] at h; exact absurd h (by decide)
  ·refine run ?_
   refine aoR fun _ => ?_; refine run ?_
   refine cnd ?_ ?_
   refine uE fun _ => ?_; try (exfalso; omega)
   refine run ?_; refine aoR fun _ => ?_
   refine run ?_
   apply uO; exact rfl; exact .fn _ _ _; exact rfl; exact hP
   refine run ?_; refine aoR fun _ => ?_
   refine run ?_; refine cnd ?_ ?_
   refine uE fun _ => ?_; try (exfalso; omega)
   refine uG fun _ => ?_; try (exfalso; omega)
   refine run ?_; refine aoR fun _ => ?_
   refine run ?_; refine cnd ?_ ?_
   refine uE fun _ => ?_; try (exfalso; omega)
   refine run ?_; refine aoR fun _ => ?_
   refine run ?_; rotate_left
   iterate 2 refine uG fun _ => ?_; try (exfalso; omega)
   refine uY (n + 1) ⟨by omega, hnext ?_⟩ (by omega) leP leP
   unfold ratEv
   rw [hR, decide_eq_true (by omega), Bool.true_or]
theorem pS {l : List Int} {a k p : Nat} (hp : p < ((l.drop a).take k).length) : ((l.drop a).take k).getD p 0 = l.getD (a + p) 0 ∧ a + p < l.length ∧ p < k := by
 have h1 : p < k ∧ a + p < l.length := by
  rw [List.length_take, List.length_drop] at hp; omega
 refine ⟨?_, h1.2, h1.1⟩
 rw [List.getD_eq_getElem?_getD, List.getElem?_take_of_lt h1.1, List.getElem?_drop, ← List.getD_eq_getElem?_getD]
theorem sB {l : List Int} {a : Int} (h : 0 ≤ atI l a) : l.getD (atI l a).toNat 0 = a ∧ (atI l a).toNat < l.length := by
 have hm : a ∈ l := by
  rcases Classical.em (a ∈ l) with hm | hm
  ·exact hm
  ·have : atI l a = -1 := iA hm
   omega
 have main : ∀ (l : List Int) (k : Nat), a ∈ l → ∃ i, i < l.length ∧ l.getD i 0 = a ∧ atFrom a l k = ((k + i : Nat) : Int) := by
  intro l
  induction l with
  | nil => intro k hm; cases hm
  | cons b r ih =>
   intro k hm
   unfold atFrom
   by_cases e : b = a
   ·rw [if_pos e]
    exact ⟨0, by simp, e, by simp⟩
   ·rw [if_neg e]
    obtain ⟨i, h1, h2, h3⟩ := ih (k + 1) ((List.mem_cons.1 hm).resolve_left fun h => e h.symm)
    exact ⟨i + 1, by simpa using h1, h2, by rw [h3]; congr 1; omega⟩
 obtain ⟨i, h1, h2, h3⟩ := main l 0 hm
 have e : atI l a = i := by unfold atI; rw [h3]; simp
 rw [e, Int.toNat_natCast]
 exact ⟨h2, h1⟩
theorem nT {l : List Int} (hn : l.Nodup) {i : Nat} (hi : i < l.length) {a : Int} (e : l.getD i 0 = a) : atI l a = i := by
 have := eG (k := 0) hn hi e
 rw [Nat.zero_add] at this
 exact this
section
variable {x : Ex}
theorem reads_rat (hx : x.rel) {n : Nat} (hn : n < x.evs.length) : (readsR x n).2 = decide (0 ≤ ratR x n) ∧ ((readsR x n).2 = true → (readsR x n).1 = ratR x n) := by
 unfold readsR ratR
 by_cases hk : (x.evs.getD n default).kind = 3
 ·rw [if_pos hk, if_pos hk]
  exact ⟨(decide_eq_true (by omega)).symm, fun _ => rfl⟩
 ·rw [if_neg hk, if_neg hk]
  unfold pairedR
  rw [Int.toNat_natCast]
  by_cases h0 : 0 ≤ pairedI x n
  ·rw [if_pos ⟨hx.check, by omega, by omega, h0⟩]
   exact ⟨(decide_eq_true h0).symm, fun _ => rfl⟩
  ·rw [if_neg (fun h => h0 h.2.2.2)]
   exact ⟨(decide_eq_false h0).symm, fun h => by cases h⟩
theorem atom_ev (hx : x.rel) {n : Nat} (hn : n < x.evs.length) : atomEv x n = ratEv x n := by
 obtain ⟨h1, h2⟩ := reads_rat hx hn
 by_cases h0 : 0 ≤ ratR x n
 rotate_left
 ·unfold atomEv ratEv
  rw [h1, decide_eq_false h0, decide_eq_true (show ratR x n < 0 by omega)]; rfl
 rw [decide_eq_true h0] at h1
 have h3 := h2 h1
 obtain ⟨b1, b2, b3⟩ := rN hx hn h0
 have ho := (vK hx.check).2.2.2
 obtain ⟨f, hf⟩ : ∃ f : Nat, x.from_.getD (ratR x n).toNat 0 = (f : Int) := ⟨_, (Int.toNat_of_nonneg b2).symm⟩
 have hfl : f < x.evs.length := by omega
 unfold atomEv ratEv
 rw [h1, h3, hf, decide_eq_false (show ¬ ratR x n < 0 by omega), Bool.not_true, Bool.false_or, Bool.false_or, Int.toNat_natCast, Bool.eq_iff_iff, List.all_eq_true, List.all_eq_true]
 constructor
 ·intro hall m hm
  have hm := List.mem_range.1 hm
  cases hM : ratM x n f m with
  | false => rfl
  | true =>
   exfalso
   unfold ratM at hM
   simp only [Bool.and_eq_true, Bool.not_eq_true', decide_eq_false_iff_not] at hM
   obtain ⟨⟨g1, g2⟩, g3⟩ := hM
   rw [← bG hx.check hfl hm] at g2
   rw [← bG hx.check hm hn] at g3
   unfold coB at g2 g3
   obtain ⟨r, i, j, hr, a2, a3, a4, a5⟩ := cJ (of_decide_eq_true g2)
   obtain ⟨r', i', j', hr', c2, c3, c4, c5⟩ := cJ (of_decide_eq_true g3)
   have e1 := (aX ho hr a3 a5).2.2
   have e2 := (aX ho hr' (by omega) c4).2.2
   have er := fC ho hr hr' (e1.symm.trans e2)
   subst er
   have hnd := zA ho hr
   have hij : j = i' := by
    have q1 := nT hnd a3 a5
    have q2 := nT hnd (show i' < _ by omega) c4
    omega
   subst hij
   have qf := nT hnd (show i < _ by omega) a4
   have qn := nT hnd c3 c5
   have hmem : x.order.getD r default ∈ x.order := by
    rw [List.getD_eq_getElem?_getD, List.getElem?_eq_getElem hr]; exact List.getElem_mem hr
   have hrow := hall _ hmem
   unfold atomRow at hrow
   rw [qf, qn, decide_eq_false (by omega), decide_eq_false (by omega), Bool.false_or, Bool.false_or, List.all_eq_true] at hrow
   have hlo : atomLo n (f : Int) (x.order.getD r default).2 = i + 1 := by unfold atomLo; rw [qf, qn]; omega
   have hms : (m : Int) ∈ atomSl n (f : Int) (x.order.getD r default).2 := by
    unfold atomSl
    rw [hlo, qn, Int.toNat_natCast]
    have hp : j - (i + 1) < (((x.order.getD r default).2.drop (i + 1)).take (j' - (i + 1))).length := by
     rw [List.length_take, List.length_drop]; omega
    have := (pS hp).1
    rw [show i + 1 + (j - (i + 1)) = j by omega, a5] at this
    rw [← this]
    exact dC hp
   have := hrow _ hms
   unfold atomM at this
   rw [Int.toNat_natCast] at this
   exact g1 (of_decide_eq_true this)
 ·intro hall row hrow
  obtain ⟨r, hr, rfl⟩ := List.mem_iff_getElem.1 hrow
  have er : x.order.getD r default = x.order[r] := by rw [List.getD_eq_getElem?_getD, List.getElem?_eq_getElem hr]; rfl
  rw [← er]
  have hnd := zA ho hr
  unfold atomRow
  by_cases hfn : atI (x.order.getD r default).2 (f : Int) < 0 ∨ atI (x.order.getD r default).2 (n : Int) < 0
  ·rcases hfn with h | h
   ·rw [decide_eq_true h]; rfl
   ·rw [decide_eq_true h, Bool.or_true]; rfl
  ·have hf0 : 0 ≤ atI (x.order.getD r default).2 (f : Int) := by omega
   have hn0 : 0 ≤ atI (x.order.getD r default).2 (n : Int) := by omega
   obtain ⟨pf1, pf2⟩ := sB hf0
   obtain ⟨pn1, pn2⟩ := sB hn0
   rw [decide_eq_false (by omega), decide_eq_false (by omega), Bool.false_or, Bool.false_or, List.all_eq_true]
   intro m hm
   unfold atomSl at hm
   obtain ⟨p, hp, e⟩ := List.mem_iff_getElem.1 hm
   have e' := (pS hp)
   rw [List.getD_eq_getElem?_getD, List.getElem?_eq_getElem hp, Option.getD_some, e] at e'
   obtain ⟨q1, q2, q3⟩ := e'
   have hlo1 : (atI (x.order.getD r default).2 (f : Int)).toNat + 1 ≤ atomLo n (f : Int) (x.order.getD r default).2 + p := by unfold atomLo at *; omega
   have hlo2 : atomLo n (f : Int) (x.order.getD r default).2 + p < (atI (x.order.getD r default).2 (n : Int)).toNat := by omega
   have hm0 := rK hx.check hr _ q2
   rw [← q1] at hm0
   obtain ⟨m', hm'⟩ : ∃ m' : Nat, m = (m' : Int) := ⟨m.toNat, (Int.toNat_of_nonneg hm0.1).symm⟩
   subst hm'
   have hml : m' < x.evs.length := by omega
   unfold atomM
   rw [Int.toNat_natCast]
   have hM := hall m' (List.mem_range.2 hml)
   rw [Bool.not_eq_true'] at hM
   by_cases hh : (x.evs.getD m' default).hart = (x.evs.getD n default).hart
   ·exact decide_eq_true hh
   ·exfalso
    have c1 : coB x f m' = true := decide_eq_true ((fH _ _).2 ⟨r, hr, (cD _ _ _).2 ⟨_, _, by omega, q2, pf1, q1.symm⟩⟩)
    have c2 : coB x m' n = true := decide_eq_true ((fH _ _).2 ⟨r, hr, (cD _ _ _).2 ⟨_, _, hlo2, pn2, q1.symm, pn1⟩⟩)
    rw [bG hx.check hfl hml] at c1
    rw [bG hx.check hml hn] at c2
    unfold ratM at hM
    rw [decide_eq_false hh, c1, c2] at hM
    exact absurd hM (by decide)
theorem atom_eq (hx : x.rel) : atomB x = ratB x := by
 unfold atomB ratB
 rw [Bool.eq_iff_iff, List.all_eq_true, List.all_eq_true]
 refine forall_congr' fun n => forall_congr' fun hn => ?_
 rw [atom_ev hx (List.mem_range.1 hn)]
end
set_option maxRecDepth 100000
abbrev V3 := Bool × Bool × Bool
def judOV (b : V3) : OV := .ag [.bool b.1, .bool b.2.1, .bool b.2.2]
def eqV (a b : V3) : Bool := a.1 == b.1 && (a.2.1 == b.2.1 && a.2.2 == b.2.2)
theorem eqVer_run (a b : V3) (w : World) : (Op.equalIn 10000 34 (.agg #[.bool a.1, .bool a.2.1, .bool a.2.2]) (.agg #[.bool b.1, .bool b.2.1, .bool b.2.2])).run Tryz.prog w = .ok (eqV a b) w := by
 obtain ⟨a1, a2, a3⟩ := a
 obtain ⟨b1, b2, b3⟩ := b
 cases a1 <;> cases a2 <;> cases a3 <;> cases b1 <;> cases b2 <;> cases b3 <;> kernel_rfl
theorem rG {G : Gh} {p : V3} {u : Value} (h : RepO G (judOV p) u) : u = .agg #[.bool p.1, .bool p.2.1, .bool p.2.2] := by
 unfold judOV at h
 rw [RepO] at h
 obtain ⟨cs, rfl, h⟩ := h
 rw [RepOL] at h
 obtain ⟨a, l, e1, h1, h⟩ := h
 rw [RepOL] at h
 obtain ⟨b, l2, rfl, h2, h⟩ := h
 rw [RepOL] at h
 obtain ⟨c, l3, rfl, h3, h⟩ := h
 rw [RepOL] at h
 subst h
 have := vP h1
 have := vP h2
 have := vP h3
 subst a b c
 rw [show cs = cs.toList.toArray by simp, e1]
section
variable {v j : Nat} {ops : Array Oper} {K : Tm → Store → Prop} {KD : List Foot → Tm → Store → Prop} {acc : List Foot} {rest : List Oper} {tm : Tm} {σ : Store} {dst : Option Tmp} {ty : TypeId} {pos : String} {af : Array Edge} {gd : Option (Nat × Bool)}
theorem Y_eqlV {x y : Operand} {T' : TypeId} {p q : V3} (hx : ev tm x = some (judOV p)) (hy : ev tm y = some (judOV q)) :
  YL E.P v j ⟨dst, .binOp .eql 34 x y T', ty, pos, af, gd⟩ tm σ [] (.bool (eqV p q)) [] := lE hx hy (fun M u w' w hu hv => by
 rw [rG hu, rG hv]
 exact ⟨run_eqGuard_agg w _ _ _ _ _ _ (by kernel_rfl), by
  rw [run_eql_struct, show E.P = Tryz.prog from rfl, eqVer_run]; rfl⟩) rfl
theorem S_eqlV {x y : Operand} {T' : TypeId} (p q : V3) (hx : ev tm x = some (judOV p)) (hy : ev tm y = some (judOV q)) (hcont : AO E.P v ops K (j + 1) rest (tm.putO dst (.bool (eqV p q))) (σ.apply [])) : AO E.P v ops K j (⟨dst, .binOp .eql 34 x y T', ty, pos, af, none⟩ :: rest) tm σ := uW (Y_eqlV hx hy) hcont
end
set_option maxHeartbeats 4000000
set_option maxRecDepth 100000
open Go.RowKit Go.Maps
def pcohL (x : Ex) : List (Int × Int) := (refPairs x.evs.length (isPo x)).filter (cohG x) ++ (rfF x ++ (coF x ++ frF x))
theorem pH {x : Ex} (hx : x.rel) (p : Int × Int) : p ∈ pcohL x ↔ p ∈ rcohL x := by
 unfold pcohL rcohL cohL
 rw [jJ hx, jH hx, cA hx.check]
 simp only [List.mem_append]
 constructor
 ·rintro (h | h | h | h)
  ·exact Or.inr h
  ·exact Or.inl (Or.inl (Or.inl h))
  ·exact Or.inl (Or.inl (Or.inr h))
  ·exact Or.inl (Or.inr h)
 ·rintro (((h | h) | h) | h)
  ·exact Or.inr (Or.inl h)
  ·exact Or.inr (Or.inr (Or.inl h))
  ·exact Or.inr (Or.inr (Or.inr h))
  ·exact Or.inl h
theorem any_congr {α : Type} {l l' : List α} (h : ∀ p, p ∈ l ↔ p ∈ l') (f : α → Bool) : l.any f = l'.any f := by
 rw [Bool.eq_iff_iff, List.any_eq_true, List.any_eq_true]
 exact ⟨fun ⟨q, h1, h2⟩ => ⟨q, (h q).1 h1, h2⟩, fun ⟨q, h1, h2⟩ => ⟨q, (h q).2 h1, h2⟩⟩
theorem jC {n : Nat} {l : List (Int × Int)} (hn : n ≤ 64) (hok : l.any (outB n) = false) : acyI n l = !circleB n l := by
 unfold acyI badB
 rw [hok, Int.toNat_natCast, eM hn hok, decide_eq_false (by omega), decide_eq_false (by omega)]
 rfl
theorem pcoh_len {x : Ex} (hx : x.rel) (h : x.evs.length ≤ 32) : (pcohL x).length ≤ 4096 := by
 have hs : x.evs.length * x.evs.length ≤ 1024 := Nat.mul_le_mul h h
 have h1 : (refPairs x.evs.length (isPo x)).length ≤ _ := wD x.evs.length (isPo x) x.evs.length
 have h2 : (refPairs x.evs.length (isRf x)).length ≤ _ := wD x.evs.length (isRf x) x.evs.length
 have h3 : (refPairs x.evs.length (isCoB x)).length ≤ _ := wD x.evs.length (isCoB x) x.evs.length
 have h4 : (refPairs x.evs.length (isFrB x)).length ≤ _ := wD x.evs.length (isFrB x) x.evs.length
 have h5 := List.length_filter_le (cohG x) (refPairs x.evs.length (isPo x))
 unfold pcohL
 rw [jJ hx, jH hx, cA hx.check]
 simp only [List.length_append]
 omega
set_option maxHeartbeats 4000000 in
theorem coherent_p (x : Ex) (hx : x.rel) (hN : x.evs.length ≤ 32) : Pure E.P 37 [jdOV x (rfF x) (coF x) (frF x)] (.bool (!circleB x.evs.length (rcohL x))) := by
 have hA : Pure E.P 59 [.int .i64 x.evs.length, .d (pairsTV (pcohL x))] (.bool (!circleB x.evs.length (rcohL x))) := by
  have hok : (pcohL x).any (outB x.evs.length) = false := (any_congr (pH hx) _).trans (gK x)
  have := nA x.evs.length (pcohL x) (pcoh_len hx hN)
  rwa [jC hx.len hok, circleB_congr (pH hx)] at this
 have f1 : Frozen 1 := ⟨trivial⟩
 have f5 : Frozen 5 := ⟨trivial⟩
 have f6 : Frozen 6 := ⟨trivial⟩
 have f7 : Frozen 7 := ⟨trivial⟩
 have f10 : Frozen 10 := ⟨trivial⟩
 have hpo := po_s x hx.fit
 unfold poF at hpo
 rw [if_pos hx.check] at hpo
 obtain ⟨l1, l2, l3, l4⟩ := nU hx
 unfold pcohL at hA
 generalize hL : refPairs x.evs.length (isPo x) = L at hpo hA
 have hln : L.length ≤ 1024 := by
  rw [← hL]
  exact Nat.le_trans (wD x.evs.length (isPo x) x.evs.length) (Nat.mul_le_mul hN hN)
 refine fnA Tryz.func37 Tryz.ntmps37 ?_
 refine run ?_; refine aoR fun _ => ?_
 refine run ?_; refine aoR fun _ => ?_
 refine run ?_; refine aoR fun _ => ?_
 refine run ?_
 apply nY; assumption; exact rfl; exact .fn _ _ _; exact rfl; exact hpo; exact xD _; exact rfl
 refine run ?_; rotate_left
 rename_i v3 _
 have hmem : ∀ k, k < L.length → ∃ a b : Nat, a < x.evs.length ∧ b < x.evs.length ∧ (L.getD k default).1 = (a : Int) ∧ (L.getD k default).2 = (b : Int) := fun k hk' => by
  have : L.getD k default ∈ L := by rw [List.getD_eq_getElem?_getD, List.getElem?_eq_getElem hk']; exact List.getElem_mem hk'
  rw [← hL] at this
  obtain ⟨a, b, g1, g2, _, g3⟩ := vG.1 this
  rw [hL] at g3
  exact ⟨a, b, g1, g2, by rw [g3], by rw [g3]⟩
 refine uS (X := Nat × Stamp × List (Int × Int)) (fun p => tmL [(1, .d (.pt (jdRow x (rfF x) (coF x) (frF x)) 0)), (3, .os 3 p.2.1 2 p.2.2.length), (10, .d (pairsTV L)), (11, .int .i64 L.length), (12, .int .i64 p.1)]) (fun p => stL [(3, (p.2.1, ⟨2, p.2.2.map pairO'⟩))])
  (fun p => p.1 ≤ L.length ∧ p.2.2 = (L.take p.1).filter (cohG x)) (fun p => L.length - p.1) (0, (v3, 0), []) ⟨Nat.zero_le _, by simp⟩ (by repeat' (first | exact vH _ | exact uX _ | refine uH rfl ?_ | refine uR rfl ?_ | (refine uK rfl ?_ ?_; (simp)) | (refine uI rfl ?_ ?_; (simp)) | (refine uM rfl ?_ ?_; (simp)))) leP ?_
 rintro ⟨k, τ, l⟩ ⟨hk', hl⟩
 dsimp only at hk' hl ⊢
 have hlen : l.length ≤ 1024 := by
  rw [hl]
  have h5 := List.length_filter_le (cohG x) (L.take k)
  have h6 : (L.take k).length ≤ L.length := by simp; omega
  omega
 by_cases hlt : k < L.length
 ·obtain ⟨a, b, ha, hb, e1, e2⟩ := hmem k hlt
  have b1 : 0 ≤ (L.getD (k : Int).toNat default).1 ∧ (L.getD (k : Int).toNat default).1 < x.evs.length := by rw [Int.toNat_natCast]; omega
  have b2 : 0 ≤ (L.getD (k : Int).toNat default).2 ∧ (L.getD (k : Int).toNat default).2 < x.evs.length := by rw [Int.toNat_natCast]; omega
  have htk : L.take (k + 1) = L.take k ++ [L.getD k default] := wI L default k hlt
  have e1' : (L.getD ((k : Int)).toNat default).1 = (a : Int) := e1
  have e2' : (L.getD ((k : Int)).toNat default).2 = (b : Int) := e2
  refine run ?_; refine aoR fun _ => ?_
  refine run ?_; refine cnd ?_ ?_
  refine uE fun _ => ?_; try (exfalso; omega)
  refine run ?_; refine aoR fun _ => ?_
  refine run ?_
  refine uU (E := E) ?_ (fun _ => ?_); exact rfl
  refine run ?_; refine aoR fun _ => ?_
  refine run ?_; refine cnd ?_ ?_
  iterate 2 refine xC ?_
  iterate 2 (refine wL (fun _ => ?_); (try (exfalso; omega)))
  refine uE fun _ => ?_; try (exfalso; omega)
  refine aoR fun _ => ?_; refine run ?_
  refine aoR fun _ => ?_; refine run ?_
  rotate_left
  refine wT (fun hc_ => ?_); (try simp only [nrm] at hc_)
  refine run ?_; refine aoR fun _ => ?_
  refine run ?_; rotate_left
  refine uG fun _ => ?_; try (exfalso; omega)
  ·rename_i g1 g2 g3 v10 _
   rw [e1', Int.toNat_natCast] at g1 g3
   rw [e2', Int.toNat_natCast] at g2 g3
   have hg2 : cohG x (L.getD k default) = true := by
    unfold cohG
    rw [e1, e2, Int.toNat_natCast, Int.toNat_natCast]
    rw [decide_eq_false g1, decide_eq_false g2, decide_eq_true g3]; rfl
   exact uY (k + 1, (v10, 4), l ++ [L.getD k default]) ⟨by dsimp only; omega, by dsimp only; rw [hl, htk, List.filter_append, List.filter_cons, if_pos hg2, List.filter_nil]⟩ (by dsimp only; omega) (by repeat' (first | exact vH _ | exact uX _ | refine uH rfl ?_ | refine uR rfl ?_ | (refine uK rfl ?_ ?_; (simp <;> rfl)) | (refine uI rfl ?_ ?_; (simp <;> rfl)) | (refine uM rfl ?_ ?_; (simp <;> rfl)))) (by repeat' (first | exact vH _ | exact uX _ | refine uH rfl ?_ | refine uR rfl ?_ | (refine uK rfl ?_ ?_; (simp <;> rfl)) | (refine uI rfl ?_ ?_; (simp <;> rfl)) | (refine uM rfl ?_ ?_; (simp <;> rfl))))
  ·rw [e1', e2', Int.toNat_natCast, Int.toNat_natCast] at hc_
   have hg2 : cohG x (L.getD k default) = false := by
    unfold cohG
    rw [e1, e2, Int.toNat_natCast, Int.toNat_natCast]
    rcases hc_ with (h9 | h9) | h9
    ·rw [decide_eq_true h9]; simp only [Bool.not_true, Bool.and_false, Bool.false_and]
    ·rw [decide_eq_true h9]; simp only [Bool.not_true, Bool.and_false, Bool.false_and]
    ·rw [decide_eq_false h9]; simp only [Bool.and_false]
   exact uY (k + 1, τ, l) ⟨by dsimp only; omega, by dsimp only; rw [hl, htk, List.filter_append, List.filter_cons, if_neg (by rw [hg2]; decide), List.filter_nil, List.append_nil]⟩ (by dsimp only; omega) leP leP
 ·have hkl : k = L.length := by omega
  have hL' : l = L.filter (cohG x) := by rw [hl, hkl, List.take_length]
  subst hL'
  have f3 : Frozen 3 := ⟨trivial⟩
  have f61 : Frozen 61 := ⟨trivial⟩
  have f62 : Frozen 62 := ⟨trivial⟩
  have hfz := xD
  have hC : Own E.P 60 [.d (.sl 1 [catRow (L.filter (cohG x)), catRow (rfF x), catRow (coF x), catRow (frF x)])] 2 ((L.filter (cohG x) ++ (rfF x ++ (coF x ++ frF x))).map pairO') := by
   have h5 := List.length_filter_le (cohG x) L
   have := concat_o [L.filter (cohG x), rfF x, coF x, frF x] (by simp only [List.flatten_cons, List.flatten_nil, List.length_append, List.length_nil]; omega) (by simp)
   simpa using this
  refine run ?_; refine aoR fun _ => ?_
  refine run ?_; refine cnd ?_ ?_
  refine uE fun _ => ?_; try (exfalso; omega)
  refine uG fun _ => ?_; try (exfalso; omega)
  refine run ?_
  refine uU (E := E) ?_ (fun _ => ?_); exact rfl
  refine run ?_
  apply oE; assumption; exact rfl; exact .fn _ _ _; exact rfl; exact hC; exact xD _; exact rfl
  apply wM; exact rfl; exact .fn _ _ _; exact rfl; exact hA
  refine run ?_; rotate_left
  exact uV rfl rfl
set_option maxHeartbeats 4000000 in
theorem ordered_p (x : Ex) (hx : x.rel) : Pure E.P 38 [jdOV x (rfF x) (coF x) (frF x)] (.bool (!circleB x.evs.length (gloL x))) := by
 have hA : Pure E.P 59 [.int .i64 x.evs.length, .d (pairsTV (gloL x))] (.bool (!circleB x.evs.length (gloL x))) := by
  have := nA x.evs.length (gloL x) (gloL_len hx)
  rwa [jC hx.len (pR x)] at this
 have hR := arrows_p x hx
 have f1 : Frozen 1 := ⟨trivial⟩
 refine fnA Tryz.func38 Tryz.ntmps38 ?_
 refine run ?_; refine aoR fun _ => ?_
 refine run ?_
 refine uU (E := E) ?_ (fun _ => ?_); exact rfl
 refine run ?_
 apply wM; exact rfl; exact .fn _ _ _; exact rfl; exact hR
 apply wM; exact rfl; exact .fn _ _ _; exact rfl; exact hA
 refine run ?_; rotate_left
 exact uV rfl rfl
def judB (x : Ex) : Bool × Bool × Bool := (!circleB x.evs.length (rcohL x), !circleB x.evs.length (gloL x), ratB x)
def judT (x : Ex) : (Bool × Bool × Bool) × Int := if checkI x = 0 then (judB x, 0) else ((false, false, false), checkI x)
theorem qC {t u T : Nat} {te : TE} {k : Nat} {τ : Stamp} {row : List OV} {rest : List (List OV)} {s : OV} {tm : Tm} {σ : Store} {R : OV → Store → Prop} (hT : E.tab T = some te) (ha : te.k.isAgg = true) (hs : te.size = row.length) (ht : tm t = some (.lo k τ te.size 0 0)) (hk : σ k = some (τ, ⟨te.size, row :: rest⟩)) (hu : tm u = some s) (hR : R (.tu [.ag row, s]) σ) : DoneN E [.cell t T, .tmp u] R .ret tm σ :=
 ⟨_, ⟨_, _, rfl, ⟨_, _, _, _, _, hT, ha, hs, ht, hk, rfl⟩, _, _, rfl, hu, rfl⟩, hR⟩
section
variable {E : Env} {v j : Nat} {ops : Array Oper} {KD : List Foot → Tm → Store → Prop} {acc : List Foot} {rest : List Oper} {tm : Tm} {σ : Store} {ty : TypeId} {pos : String} {af : Array Edge}
theorem rE {dst : Option Tmp} {x : Operand} {k : Nat} {τ : Stamp} {a i o : Nat} (hx : ev tm x = some (.lo k τ a i o)) (hcont : DO E.P v ops KD (j + 1) rest (tm.putO dst (.lo k τ a i o)) (σ.apply []) (Foot.mk [] (wkeys []) :: acc)) : DO E.P v ops KD j (⟨dst, .nilCheck x, ty, pos, af, none⟩ :: rest) tm σ acc := eU rfl hx hcont
end
def vrow (b : Bool × Bool × Bool) (k : Nat) : List OV := [.bool (decide (0 < k) && b.1), .bool (decide (1 < k) && b.2.1), .bool (decide (2 < k) && b.2.2)]
set_option maxHeartbeats 4000000 in
theorem sI (x : Ex) (hx : x.fit) (hN : x.evs.length ≤ 32) : Pure E.P 17 [exOV x] (.tu [judOV (judT x).1, .int .i64 (judT x).2]) := by
 have hk := yX _ hx.1 hx.2
 have f1 : Frozen 1 := ⟨trivial⟩
 have f5 : Frozen 5 := ⟨trivial⟩
 refine FnW.toR ?_
 refine xA (vs := [.cell 2 34, .tmp 3]) Tryz.func17 (by decide) rfl Tryz.ntmps17 (Nat.le_of_ble_eq_true rfl) rfl ?_
 by_cases hc : checkI x = 0
 rotate_left
 ·refine run ?_
  refine aoR fun _ => ?_; refine run ?_
  refine aoR fun _ => ?_; refine run ?_
  apply uO; exact rfl; exact .fn _ _ _; exact rfl; exact hk
  refine run ?_; refine aoR fun _ => ?_
  refine run ?_; refine cnd ?_ ?_
  refine wL (fun _ => ?_); (try (exfalso; omega))
  refine run ?_; refine aoR fun _ => ?_
  refine run ?_; rotate_left
  refine wS (fun _ => ?_); (try (exfalso; omega))
  refine qC rfl rfl rfl rfl rfl rfl ?_
  unfold judT
  rw [if_neg hc]
  rfl
 rw [hc] at hk
 have hr : x.rel := ⟨hx, hc⟩
 have hof := of_p x hx
 have hB : judT x = (judB x, 0) := by unfold judT; rw [if_pos hc]
 have h1 : Pure E.P 37 [jdOV x (rfF x) (coF x) (frF x)] (.bool (judB x).1) := coherent_p x hr hN
 have h2 : Pure E.P 38 [jdOV x (rfF x) (coF x) (frF x)] (.bool (judB x).2.1) := ordered_p x hr
 have h3 : Pure E.P 39 [jdOV x (rfF x) (coF x) (frF x)] (.bool (judB x).2.2) := by
  have := atomic_p x hr (rfF x) (coF x) (frF x)
  rwa [atom_eq hr] at this
 rw [hB]
 generalize judB x = B at h1 h2 h3
 refine run ?_; refine aoR fun _ => ?_
 refine run ?_; refine aoR fun _ => ?_
 refine run ?_
 apply uO; exact rfl; exact .fn _ _ _; exact rfl; exact hk
 refine run ?_; refine aoR fun _ => ?_
 refine run ?_; refine cnd ?_ ?_
 refine wL (fun _ => ?_); (try (exfalso; omega))
 refine wS (fun _ => ?_); (try (exfalso; omega))
 refine run ?_; refine aoR fun _ => ?_
 refine run ?_
 apply uO; exact rfl; exact .fn _ _ _; exact rfl; exact hof
 refine run ?_; refine aoR fun _ => ?_
 refine run ?_; refine aoR fun _ => ?_
 refine run ?_; rotate_left
 rename_i v2 _ _ _ _ v6 v30
 refine uS (X := Nat) (fun k => tmL [(2, .lo 2 (v2, 1) 3 0 0), (6, .lo 6 (v6, 1) 3 0 0), (30, .os 30 (v30, 12) 2 3), (31, .int .i64 3), (32, .int .i64 k)])
  (fun k => stL [(2, ((v2, 1), ⟨3, [[.bool false, .bool false, .bool false]]⟩)), (6, ((v6, 1), ⟨3, [vrow B k]⟩)), (30, ((v30, 12), ⟨2, [[.lo 6 (v6, 1) 3 0 0, .fn 37 [jdOV x (rfF x) (coF x) (frF x)] []], [.lo 6 (v6, 1) 3 0 1, .fn 38 [jdOV x (rfF x) (coF x) (frF x)] []], [.lo 6 (v6, 1) 3 0 2, .fn 39 [jdOV x (rfF x) (coF x) (frF x)] []]]⟩))])
  (fun k => k ≤ 3) (fun k => 3 - k) 0 (Nat.zero_le _) leP leP ?_
 intro k hk3
 by_cases h30 : k = 3
 ·subst h30
  refine run ?_; refine aoR fun _ => ?_
  refine run ?_; refine cnd ?_ ?_
  refine uE fun _ => ?_; try (exfalso; omega)
  refine uG fun _ => ?_; try (exfalso; omega)
  refine run ?_; refine aoR fun _ => ?_
  refine run ?_; rotate_left
  refine qC rfl rfl rfl rfl rfl rfl ?_
  rfl
 have h012 : k = 0 ∨ k = 1 ∨ k = 2 := by omega
 rcases h012 with rfl | rfl | rfl
 ·refine run ?_
  refine aoR fun _ => ?_; refine run ?_
  refine cnd ?_ ?_
  refine uE fun _ => ?_; try (exfalso; omega)
  refine run ?_; refine aoR fun _ => ?_
  refine run ?_
  refine uU (E := E) ?_ (fun _ => ?_); exact rfl
  refine run ?_
  apply wM; exact rfl; exact .fn _ _ _; exact rfl; exact h1
  apply rE; exact rfl
  refine run ?_; refine aoR fun _ => ?_
  refine run ?_; rotate_left
  refine uG fun _ => ?_; try (exfalso; omega)
  exact uY 1 (by omega) (by omega) leP leP
 ·refine run ?_
  refine aoR fun _ => ?_; refine run ?_
  refine cnd ?_ ?_
  refine uE fun _ => ?_; try (exfalso; omega)
  refine run ?_; refine aoR fun _ => ?_
  refine run ?_
  refine uU (E := E) ?_ (fun _ => ?_); exact rfl
  refine run ?_
  apply wM; exact rfl; exact .fn _ _ _; exact rfl; exact h2
  apply rE; exact rfl
  refine run ?_; refine aoR fun _ => ?_
  refine run ?_; rotate_left
  refine uG fun _ => ?_; try (exfalso; omega)
  exact uY 2 (by omega) (by omega) leP leP
 ·refine run ?_
  refine aoR fun _ => ?_; refine run ?_
  refine cnd ?_ ?_
  refine uE fun _ => ?_; try (exfalso; omega)
  refine run ?_; refine aoR fun _ => ?_
  refine run ?_
  refine uU (E := E) ?_ (fun _ => ?_); exact rfl
  refine run ?_
  apply wM; exact rfl; exact .fn _ _ _; exact rfl; exact h3
  apply rE; exact rfl
  refine run ?_; refine aoR fun _ => ?_
  refine run ?_; rotate_left
  refine uG fun _ => ?_; try (exfalso; omega)
  exact uY 3 (by omega) (by omega) leP leP
def allowB (x : Ex) : Bool := (judB x).1 && (judB x).2.1 && (judB x).2.2
def allowT (x : Ex) : Bool × Int := if checkI x = 0 then (allowB x, 0) else (false, checkI x)
theorem allow_eq (x : Ex) : eqV (judT x).1 (true, true, true) = (allowT x).1 ∧ (judT x).2 = (allowT x).2 := by
 unfold judT allowT
 by_cases hc : checkI x = 0
 ·rw [if_pos hc, if_pos hc]
  refine ⟨?_, rfl⟩
  unfold eqV allowB
  generalize judB x = B
  obtain ⟨a, b, c⟩ := B
  cases a <;> cases b <;> cases c <;> rfl
 ·rw [if_neg hc, if_neg hc]
  exact ⟨rfl, rfl⟩
set_option maxHeartbeats 4000000 in
theorem iK (x : Ex) (hx : x.fit) (hN : x.evs.length ≤ 32) : Pure E.P 15 [exOV x] (.tu [.bool (allowT x).1, .int .i64 (allowT x).2]) := by
 have hJ := sI x hx hN
 obtain ⟨e1, e2⟩ := allow_eq x
 rw [← e1, ← e2]
 have f1 : Frozen 1 := ⟨trivial⟩
 refine FnW.toR ?_
 refine xA (vs := [.tmp 2, .tmp 3]) Tryz.func15 (by decide) rfl Tryz.ntmps15 (Nat.le_of_ble_eq_true rfl) rfl ?_
 refine run ?_; refine aoR fun _ => ?_
 refine run ?_; refine aoR fun _ => ?_
 refine run ?_
 apply uO; exact rfl; exact .fn _ _ _; exact rfl; exact hJ
 refine run ?_; refine aoR fun _ => ?_
 refine run ?_
 apply S_eqlV (judT x).1 (true, true, true); exact rfl; exact rfl
 refine run ?_; rotate_left
 exact bP rfl rfl rfl
def arrT (x : Ex) : List (Int × Int) × Int := if checkI x = 0 then (gloL x, 0) else ([], checkI x)
set_option maxHeartbeats 4000000
set_option maxRecDepth 100000
def Ev.lens (e : Ev) : Nat := e.addrs.length + e.datas.length + e.ctrls.length
def sumE (es : List Ev) (k : Nat) : Nat := ((es.take k).map Ev.lens).sum
def sumR (rows : List (Sl × List Int)) (k : Nat) : Nat := ((rows.take k).map fun r => r.2.length).sum
def wideB8 (x : Ex) : Bool := decide (20 < x.evs.length) || decide (200 < x.from_.length) || decide (200 < x.order.length) || decide (400 < x.from_.length + sumR x.order x.order.length) || decide (400 < x.from_.length + sumR x.order x.order.length + sumE x.evs x.evs.length)
theorem Ex.ok.ev {x : Ex} (h : x.ok) (i : Nat) : (x.evs.getD i default).addrs.length ≤ 1152921504606846976 ∧ (x.evs.getD i default).datas.length ≤ 1152921504606846976 ∧ (x.evs.getD i default).ctrls.length ≤ 1152921504606846976 := by
 rcases Nat.lt_or_ge i x.evs.length with hh | hh
 ·rw [List.getD_eq_getElem?_getD, List.getElem?_eq_getElem hh]
  have := h.2.1 _ (List.getElem_mem hh)
  exact ⟨this.2.1, this.2.2.1, this.2.2.2.1⟩
 ·rw [List.getD_eq_getElem?_getD, List.getElem?_eq_none hh]
  decide
theorem Ex.ok.row {x : Ex} (h : x.ok) (i : Nat) : (x.order.getD i default).2.length ≤ 1152921504606846976 := by
 rcases Nat.lt_or_ge i x.order.length with hh | hh
 ·rw [List.getD_eq_getElem?_getD, List.getElem?_eq_getElem hh]
  exact h.2.2.2.2 _ (List.getElem_mem hh)
 ·rw [List.getD_eq_getElem?_getD, List.getElem?_eq_none hh]
  decide
end Go.Proofs.YtnkocjkkefnelaaGreat
