/- Parts. -/
import Derived.Test.YtnkocjkkefnelaaGreatPn6
import Derived.Test.YtnkocjkkefnelaaGreatPn7
import Derived.Test.YtnkocjkkefnelaaGreatPn8
import Derived.Test.YtnkocjkkefnelaaGreatPn10
import Derived.Test.YtnkocjkkefnelaaGreatPn19
import Derived.Test.YtnkocjkkefnelaaGreatPn22
set_option linter.unusedVariables false
set_option linter.unusedSimpArgs false
set_option maxHeartbeats 4000000
set_option maxHeartbeats 4000000
set_option maxRecDepth 100000
namespace Go.Proofs.YtnkocjkkefnelaaGreat
open Go.RowKit
theorem kJ (e : Ev) : Pure E.P 79 [evOV e] (.bool e.stB) := by
 refine fnA Tryz.func79 Tryz.ntmps79 ?_
 refine run ?_; refine aoR fun _ => ?_
 refine run ?_; refine aoR fun _ => ?_
 refine run ?_; rotate_left
 all_goals (refine vI rfl ?_; rw [Bool.eq_iff_iff]; simp_all [Ev.stB])
theorem nN (e : Ev) : Pure E.P 78 [evOV e] (.bool e.ldB) := by
 refine fnA Tryz.func78 Tryz.ntmps78 ?_
 refine run ?_; refine aoR fun _ => ?_
 refine run ?_; refine aoR fun _ => ?_
 refine run ?_; rotate_left
 all_goals (refine vI rfl ?_; rw [Bool.eq_iff_iff]; simp_all [Ev.ldB])
theorem mJ (e : Ev) : Pure E.P 139 [evOV e] (.bool (strongB e)) := by
 refine fnA Tryz.func139 Tryz.ntmps139 ?_
 refine run ?_; refine aoR fun _ => ?_
 refine run ?_; refine aoR fun _ => ?_
 refine run ?_; rotate_left
 all_goals (refine vI rfl ?_; rw [Bool.eq_iff_iff]; simp_all [strongB])
theorem nX (x : Ex) (n : Nat) (hx : x.evs.length ≤ 65536) (hn : n < x.evs.length) : Pure E.P 109 [exOV x, .int .i64 n] (.bool (accB (x.evs.getD n default))) := by
 refine fnA Tryz.func109 Tryz.ntmps109 ?_
 refine run ?_; refine aoR fun _ => ?_
 refine run ?_; refine aoR fun _ => ?_
 refine run ?_; rotate_left
 all_goals (refine vI rfl ?_; rw [Bool.eq_iff_iff]; simp_all [accB])
theorem index_p (l : List Int) (n : Int) (hl : l.length ≤ 1152921504606846976) : Pure E.P 62 [.d (ints l), .int .i64 n] (.int .i64 (atI l n)) := by
 refine fnA Tryz.func62 Tryz.ntmps62 ?_
 refine run ?_; refine aoR fun _ => ?_
 refine run ?_; refine aoR fun _ => ?_
 refine run ?_; rotate_left
 refine vJ (X := Nat) (fun k => tmL [(0, .d (ints l)), (1, .int .i64 n), (6, .d (ints l)), (7, .int .i64 l.length), (8, .int .i64 k)]) (fun _ => stL []) (fun k => k ≤ l.length ∧ atI l n = atFrom n (l.drop k) k) (fun k => l.length - k) 0 ⟨Nat.zero_le _, rfl⟩ leP leP ?_
 intro k hk
 obtain ⟨hk, ht⟩ := hk
 refine run ?_; refine aoR fun _ => ?_
 refine run ?_; refine cnd ?_ ?_
 refine uN fun _ => ?_; try omega
 refine run ?_; refine aoR fun _ => ?_
 refine run ?_; refine aoR fun _ => ?_
 refine run ?_; refine cnd ?_ ?_
 refine uN fun _ => ?_; try omega
 refine run ?_; refine aoR fun _ => ?_
 refine run ?_; rotate_left
 refine uR fun _ => ?_; try omega
 refine run ?_; refine aoR fun _ => ?_
 refine run ?_; rotate_left
 refine uR fun _ => ?_; try omega
 refine run ?_; refine aoR fun _ => ?_
 refine run ?_; rotate_left
 ·refine lQ rfl ?_
  rename_i h _
  rw [Int.toNat_natCast] at h
  rw [ht, bF l n k (by omega), if_pos h.symm]
 ·rename_i h _
  rw [Int.toNat_natCast] at h
  refine vQ (k + 1) ⟨by omega, ?_⟩ (by omega) leP leP
  rw [ht, bF l n k (by omega), if_neg (fun e => h e.symm)]
 ·refine lQ rfl ?_
  rw [ht, show k = l.length by omega, List.drop_length]; rfl
theorem xU (l : List Int) (n : Nat) (hl : l.length ≤ 1152921504606846976) : Pure E.P 142 [.d (ints l), .int .i64 n] (.bool (hasB l n)) := by
 refine fnA Tryz.func142 Tryz.ntmps142 ?_
 refine run ?_; refine aoR fun _ => ?_
 refine run ?_; refine aoR fun _ => ?_
 refine run ?_
 apply uO; exact rfl; exact .fn _ _ _; exact rfl; (exact index_p _ _ hl)
 refine run ?_; rotate_left
 all_goals (refine vI rfl ?_; rfl)
theorem pair_p (x : Ex) (a b : Nat) (hx : x.evs.length ≤ 65536) (ha : a < x.evs.length) (hb : b < x.evs.length) : Pure E.P 92 [exOV x, .int .i64 a, .int .i64 b] (.bool (pairOf x a b)) := by
 refine fnA Tryz.func92 Tryz.ntmps92 ?_
 refine run ?_; refine aoR fun _ => ?_
 refine run ?_
 refine vF (E := E) ?_ (fun _ => ?_); exact rfl
 refine run ?_
 apply yD; exact rfl; exact .fn _ _ _; exact rfl; (exact nX _ _ hx (by omega))
 refine run ?_
 apply dpT; exact rfl
 intro hc_
 have hp_ := hc_; try simp only [nrm] at hp_
 apply wA; exact .plain rfl rfl; exact .fn _ _ _; exact xJ; (exact nX _ _ hx (by omega))
 refine run ?_; rotate_left
 all_goals (refine vI rfl ?_; rw [Bool.eq_iff_iff]; simp_all [pairOf])
theorem bit_0 (s : Int) (h0 : 0 ≤ s) (h3 : s ≤ 3) : IntKind.i64.wrap ↑(BitVec.ofInt IntKind.i64.bits s &&& BitVec.ofInt IntKind.i64.bits 1).toNat = 0 ↔ ¬ (s = 1 ∨ s = 3) := by
 obtain rfl | rfl | rfl | rfl : s = 0 ∨ s = 1 ∨ s = 2 ∨ s = 3 := by omega
 all_goals decide +kernel
theorem bit_1 (s : Int) (h0 : 0 ≤ s) (h3 : s ≤ 3) : IntKind.i64.wrap ↑(BitVec.ofInt IntKind.i64.bits s &&& BitVec.ofInt IntKind.i64.bits 2).toNat = 0 ↔ ¬ (s = 2 ∨ s = 3) := by
 obtain rfl | rfl | rfl | rfl : s = 0 ∨ s = 1 ∨ s = 2 ∨ s = 3 := by omega
 all_goals decide +kernel
theorem in_p (s : Int) (e : Ev) (h0 : 0 ≤ s) (h3 : s ≤ 3) : Pure E.P 135 [.int .i64 s, evOV e] (.bool (inB s e)) := by
 have b0 := bit_0 s h0 h3
 have b1 := bit_1 s h0 h3
 refine fnA Tryz.func135 Tryz.ntmps135 ?_
 refine uK ?_; refine aoR fun _ => ?_
 refine uK ?_; refine aoR fun _ => ?_
 refine uK ?_
 apply rW; exact rfl; exact rfl
 refine uK ?_
 apply uE; exact rfl; exact rfl
 refine xG (fun _ => ?_); (try omega)
 refine uK ?_
 apply uE; exact rfl; exact rfl
 refine uI ?_
 apply uO; exact rfl; exact .fn _ _ _; exact rfl; (exact kJ _)
 refine uK ?_
 apply uZ; exact rfl; exact rfl
 refine xZ (fun hc_ => ?_); (try simp only [nrm] at hc_)
 refine uK ?_
 apply uZ; exact rfl; exact rfl
 refine uF ?_
 apply rW; exact rfl; exact rfl
 apply uZ; exact rfl; exact rfl
 refine uF ?_; refine uK ?_
 apply uZ; exact rfl; exact rfl
 refine uF ?_; refine uK ?_
 apply uE; exact rfl; exact rfl
 refine xG (fun _ => ?_); (try omega)
 refine uK ?_
 apply uE; exact rfl; exact rfl
 refine uI ?_
 apply uO; exact rfl; exact .fn _ _ _; exact rfl; (exact nN _)
 apply uZ; exact rfl; exact rfl
 refine uF ?_; refine uK ?_; rotate_left
 exact uG
 exact vV
 refine xA (fun _ => ?_); (try omega)
 apply uE; exact rfl; exact rfl
 exact uG
 refine uF ?_
 apply uZ; exact rfl; exact rfl
 refine uF ?_; refine uK ?_; rotate_left
 iterate 4 exact uG
 refine yU ?_; refine uI ?_
 refine iM (fun _ => ?_)
 apply uZ; exact rfl; exact rfl
 exact vV
 refine uI ?_
 apply uZ; exact rfl; exact rfl
 exact vV
 refine uI ?_
 apply uZ; exact rfl; exact rfl
 exact vV
 refine uI ?_; refine uK ?_
 apply uZ; exact rfl; exact rfl
 exact vV
 refine uI ?_; refine uK ?_; rotate_left
 exact vV
 refine xA (fun _ => ?_); (try omega)
 apply uE; exact rfl; exact rfl
 exact uG
 refine uF ?_; refine uK ?_
 apply uZ; exact rfl; exact rfl
 refine uF ?_; refine uK ?_
 apply uZ; exact rfl; exact rfl
 refine uF ?_
 apply rW; exact rfl; exact rfl
 apply uZ; exact rfl; exact rfl
 refine uF ?_; refine uK ?_
 apply uZ; exact rfl; exact rfl
 refine uF ?_; refine uK ?_
 apply uE; exact rfl; exact rfl
 refine xG (fun _ => ?_); (try omega)
 refine uK ?_
 apply uE; exact rfl; exact rfl
 refine uI ?_
 apply uO; exact rfl; exact .fn _ _ _; exact rfl; (exact nN _)
 apply uZ; exact rfl; exact rfl
 refine uF ?_; refine uK ?_; rotate_left
 exact uG
 exact vV
 refine xA (fun _ => ?_); (try omega)
 apply uE; exact rfl; exact rfl
 exact uG
 refine uF ?_
 apply uZ; exact rfl; exact rfl
 refine uF ?_; refine uK ?_; rotate_left
 iterate 5 exact uG
 all_goals
  refine vI rfl ?_
  rw [Bool.eq_iff_iff]
  simp only [b0, b1] at *
  first | (simp_all [inB]; done) | (simp_all [inB]; grind)
set_option maxHeartbeats 4000000
set_option maxRecDepth 100000
def btwYs (x : Ex) (a b : Nat) : List (List OV) := (List.range (b - (a + 1))).map fun i => [.int .i64 ((a + 1 + i : Nat) : Int), evOV (x.evs.getD (a + 1 + i) default)]
theorem eO (x : Ex) (a b : Nat) : (btwYs x a b).length = b - (a + 1) := by simp [btwYs]
theorem eP (x : Ex) (a b i : Nat) (h : i < b - (a + 1)) : (btwYs x a b).getD i [] = [.int .i64 ((a + 1 + i : Nat) : Int), evOV (x.evs.getD (a + 1 + i) default)] := by
 unfold btwYs
 rw [List.getD_eq_getElem?_getD, List.getElem?_map, List.getElem?_range h]; rfl
theorem rA (x : Ex) (a b : Nat) (hx : x.evs.length ≤ 65536) (hb : b < x.evs.length) (ha : a ≤ 65536) : SeqW E.P 181 [] [.d (.pt [.c (.int .i64 a)] 0), .d (.pt [.c (.int .i64 b)] 0), .d (.pt (exRow x) 0)] (btwYs x a b) := by
 intro Y k τ J m st hm h1 h2 hnd hbig hy l0 hl0
 rw [eO] at hm h1
 refine xT Tryz.func181 (by decide) rfl Tryz.ntmps181 (Nat.le_of_ble_eq_true rfl) rfl ?_
 refine run ?_; refine aoR fun _ => ?_
 refine run ?_; rotate_left
 refine vJ (X := Nat × Rows) (fun p => tmL [(0, .yl k τ), (2, .d (.pt [.c (.int .i64 b)] 0)), (3, .d (.pt (exRow x) 0)), (5, .int .i64 ((a + 1 + p.1 : Nat) : Int)), (GS, .gh p.1 Y)]) (fun p => stL p.2)
  (fun p => p.1 ≤ b - (a + 1) ∧ J p.1 p.2 ∧ (st = true → p.1 < m)) (fun p => b - (a + 1) - p.1) (0, l0) ⟨Nat.zero_le _, hl0, h2⟩ leP (fun _ _ h => h) ?_
 rintro ⟨i, l⟩ ⟨hi, hJ, hst⟩
 dsimp only at hi hJ hst ⊢
 by_cases hlt : i < b - (a + 1)
 rotate_left
 ·have hme : i = m := by
   cases st with
   | true => have h9 := hst rfl; omega
   | false => have := h1 rfl; omega
  refine run ?_; refine aoR fun _ => ?_
  refine run ?_; refine cnd ?_ ?_
  refine uN fun _ => ?_; try omega
  refine uR fun _ => ?_; try omega
  refine run ?_; rotate_left
  subst hme
  exact ⟨Or.inl rfl, rfl, l, hJ, fun _ _ h => h⟩
 have hlm : i < m := by
  cases st with
  | true => exact hst rfl
  | false => rw [h1 rfl]; exact hlt
 have hY := hy i l hlm hJ
 rw [eP x a b i hlt] at hY
 rcases Bool.eq_false_or_eq_true (!(st && i + 1 == m)) with hans | hans
 ·rw [hans] at hY
  refine uK ?_; refine aoR fun _ => ?_
  refine uK ?_; refine cnd ?_ ?_
  refine uN fun _ => ?_; try omega
  refine uK ?_; refine aoR fun _ => ?_
  refine uK ?_
  apply zK; exact rfl; exact rfl; exact rfl; exact hY; exact (fun _ _ h => h); exact hnd _; (intro l1 hl1)
  refine uK ?_; refine cnd ?_ ?_; refine aM ?_
  exact vV
  refine cO ?_; refine uI ?_; refine uK ?_; refine aoR fun _ => ?_
  refine uK ?_; rotate_left
  refine uR fun _ => ?_; try omega
  exact ⟨(i + 1, l1), ⟨show i + 1 ≤ _ by omega, hl1, lG hlm hans⟩, show b - (a + 1) - (i + 1) < b - (a + 1) - i by omega, leP, zQ (hnd _ _ hl1)⟩
 ·rw [hans] at hY
  rw [dO hans] at hY
  refine uK ?_; refine aoR fun _ => ?_
  refine uK ?_; refine cnd ?_ ?_
  refine uN fun _ => ?_; try omega
  refine uK ?_; refine aoR fun _ => ?_
  refine uK ?_
  apply zK; exact rfl; exact rfl; exact rfl; exact hY; exact (fun _ _ h => h); exact hnd _; (intro l1 hl1)
  refine uK ?_; refine cnd ?_ ?_; refine aM ?_; refine uF ?_; refine uK ?_; rotate_left
  refine cO ?_
  exact uG
  refine uR fun _ => ?_; try omega
  exact ⟨Or.inr rfl, rfl, l1, hl1, zQ (hnd _ _ hl1)⟩
theorem between_p (x : Ex) (a b : Nat) : Pure E.P 172 [exOV x, .int .i64 a, .int .i64 b] (.fn 181 [] [.d (.pt [.c (.int .i64 a)] 0), .d (.pt [.c (.int .i64 b)] 0), .d (.pt (exRow x) 0)]) := by
 have f3 : Frozen 3 := ⟨trivial⟩
 have f4 : Frozen 4 := ⟨trivial⟩
 have f5 : Frozen 5 := ⟨trivial⟩
 refine fnA Tryz.func172 Tryz.ntmps172 ?_
 refine run ?_; refine aoR fun _ => ?_
 refine run ?_; refine aoR fun _ => ?_
 refine run ?_; rotate_left
 exact iR rfl rfl
theorem kI {a : Nat} {h : Nat → Bool} : ∀ {b : Nat}, someB a b h = true → ∃ n, a < n ∧ n < b ∧ h n = true ∧ ∀ k, a < k → k < n → h k = false
 | 0, e => by rw [gW (by omega)] at e; cases e
 | b + 1, e => by
  by_cases hab : a < b
  ·rw [someB_succ hab] at e
   cases hs : someB a b h with
   | true =>
    obtain ⟨n, h1, h2, h3⟩ := kI hs
    exact ⟨n, h1, by omega, h3⟩
   | false =>
    rw [hs, Bool.false_or] at e
    refine ⟨b, hab, by omega, e, fun k h1 h2 => ?_⟩
    cases hk : h k with
    | false => rfl
    | true => rw [jT h1 h2 hk] at hs; cases hs
  ·rw [gW (by omega)] at e; cases e
theorem lF (x : Ex) (a b : Nat) (f : FuncId) (ca : List TV) (h : Nat → Bool) (hx : x.evs.length ≤ 65536) (hb : b < x.evs.length) (ha : a ≤ 65536) (hh : ∀ n : Nat, a < n → n < b → Pure E.P f ([.int .i64 n, evOV (x.evs.getD n default)] ++ ca.map .d) (.bool (h n))) :
  Pure E.P 130 [exOV x, .int .i64 a, .int .i64 b, .fn f [] (ca.map .d)] (.bool (someB a b h)) := by
 have f4 : Frozen 4 := ⟨trivial⟩
 have f7 : Frozen 7 := ⟨trivial⟩
 have k9 : KeyOf 9 1009 := ⟨trivial⟩
 refine fnA Tryz.func130 Tryz.ntmps130 ?_
 refine run ?_; refine aoR fun _ => ?_
 refine run ?_; refine aoR fun _ => ?_
 refine run ?_; refine aoR fun _ => ?_
 refine run ?_
 apply uO; exact rfl; exact .fn _ _ _; exact rfl; exact between_p x a b
 refine run ?_; rotate_left
 rename_i v9 _
 cases hs : someB a b h with
 | false =>
  obtain ⟨m, hm⟩ : ∃ m, m = b - (a + 1) := ⟨_, rfl⟩
  have hI : ∀ i, i < m → h (a + 1 + i) = (false && decide (i + 1 = m)) := fun i hi => by
   cases hk : h (a + 1 + i) with
   | false => rfl
   | true => rw [jT (by omega) (by omega) hk] at hs; cases hs
  refine fL (X := Bool) rfl (.fn _ _ _) (rA x a b hx hb ha) (fun q => [(1009, ((v9, 0), ⟨1, [[.bool q]]⟩))]) (fun i q => q = (false && decide (i = m))) false (by simp <;> omega) m .normal rfl (by rw [eO]; omega) (fun e => by rw [eO]; first | omega | cases e) (fun e => by first | omega | exact (e rfl).elim)
    (tmL [(7, .d (.pt [.fn f [] ca] 0)), (9, .lo 1009 (v9, 0) 1 0 0)]) leP rfl (by decide) (fun i hi => by rw [eP _ _ _ _ (by omega)]; rfl) leP (fun p => by simp) (fun p => by simp) ?_ ?_
  ·rintro i q hi rfl
   rw [eP _ _ _ _ (by omega)]
   have hc := hh (a + 1 + i) (by omega) (by omega)
   refine run ?_; refine aoR fun _ => ?_
   refine run ?_; refine aoR fun _ => ?_
   refine run ?_; rotate_left
   refine ⟨rfl, ?_⟩
   by_cases hlast : i + 1 = m
   ·have hv : h (a + 1 + i) = false := by rw [hI i hi]; simp [hlast]
    rw [hv] at hc
    refine run ?_; refine aoR fun _ => ?_
    refine run ?_
    apply uO; exact rfl; exact .d _ _ _; exact rfl; exact hc
    refine run ?_; refine aoR fun _ => ?_
    refine run ?_; refine cnd ?_ ?_
    exact uG
    refine uF ?_; refine run ?_; rotate_left
    exact ⟨by rw [show (i + 1 == m) = true by simpa using hlast]; rfl, false, by simp [hlast], leP⟩
   ·have hv : h (a + 1 + i) = false := by rw [hI i hi]; simp [hlast]
    rw [hv] at hc
    refine run ?_; refine aoR fun _ => ?_
    refine run ?_
    apply uO; exact rfl; exact .d _ _ _; exact rfl; exact hc
    refine run ?_; refine aoR fun _ => ?_
    refine run ?_; refine cnd ?_ ?_
    exact uG
    refine uF ?_; refine run ?_; rotate_left
    exact ⟨by rw [show (i + 1 == m) = false by simpa using hlast]; rfl, false, by simp [hlast], leP⟩
  ·rintro q rfl
   refine run ?_; refine aoR fun _ => ?_
   refine run ?_; rotate_left
   exact vI rfl (by simp)
 | true =>
  obtain ⟨n, h1, h2, h3, h4⟩ := kI hs
  obtain ⟨m, hm⟩ : ∃ m, m = n - a := ⟨_, rfl⟩
  have hI : ∀ i, i < m → h (a + 1 + i) = (true && decide (i + 1 = m)) := fun i hi => by
   by_cases e : i + 1 = m
   ·rw [show a + 1 + i = n by omega, h3]; simp [e]
   ·rw [h4 _ (by omega) (by omega)]; simp [e]
  refine fL (X := Bool) rfl (.fn _ _ _) (rA x a b hx hb ha) (fun q => [(1009, ((v9, 0), ⟨1, [[.bool q]]⟩))]) (fun i q => q = (true && decide (i = m))) false (by simp <;> omega) m (.exit 0) rfl (by rw [eO]; omega) (fun e => by rw [eO]; first | omega | cases e) (fun e => by first | omega | exact (e rfl).elim)
    (tmL [(7, .d (.pt [.fn f [] ca] 0)), (9, .lo 1009 (v9, 0) 1 0 0)]) leP rfl (by decide) (fun i hi => by rw [eP _ _ _ _ (by omega)]; rfl) leP (fun p => by simp) (fun p => by simp) ?_ ?_
  ·rintro i q hi rfl
   rw [eP _ _ _ _ (by omega)]
   have hc := hh (a + 1 + i) (by omega) (by omega)
   refine run ?_; refine aoR fun _ => ?_
   refine run ?_; refine aoR fun _ => ?_
   refine run ?_; rotate_left
   refine ⟨rfl, ?_⟩
   by_cases hlast : i + 1 = m
   ·have hv : h (a + 1 + i) = true := by rw [hI i hi]; simp [hlast]
    rw [hv] at hc
    refine run ?_; refine aoR fun _ => ?_
    refine run ?_
    apply uO; exact rfl; exact .d _ _ _; exact rfl; exact hc
    refine run ?_; refine aoR fun _ => ?_
    refine run ?_; refine cnd ?_ ?_; refine uI ?_; refine run ?_; rotate_left
    exact vV
    exact ⟨by rw [show (i + 1 == m) = true by simpa using hlast]; rfl, true, by simp [hlast], leP⟩
   ·have hv : h (a + 1 + i) = false := by rw [hI i hi]; simp [hlast]
    rw [hv] at hc
    refine run ?_; refine aoR fun _ => ?_
    refine run ?_
    apply uO; exact rfl; exact .d _ _ _; exact rfl; exact hc
    refine run ?_; refine aoR fun _ => ?_
    refine run ?_; refine cnd ?_ ?_
    exact uG
    refine uF ?_; refine run ?_; rotate_left
    exact ⟨by rw [show (i + 1 == m) = false by simpa using hlast]; rfl, false, by simp [hlast], leP⟩
  ·rintro q rfl
   refine run ?_; refine aoR fun _ => ?_
   refine run ?_; rotate_left
   exact vI rfl (by simp)
end Go.Proofs.YtnkocjkkefnelaaGreat
