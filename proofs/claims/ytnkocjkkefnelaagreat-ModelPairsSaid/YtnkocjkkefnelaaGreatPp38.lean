/- Parts. -/
import Derived.Test.YtnkocjkkefnelaaGreatPp4
import Derived.Test.YtnkocjkkefnelaaGreatPp24
import Derived.Test.YtnkocjkkefnelaaGreatPp32
import Derived.Test.YtnkocjkkefnelaaGreatPp36
import Derived.Test.YtnkocjkkefnelaaGreatPp37
set_option linter.unusedVariables false
set_option linter.unusedSimpArgs false
set_option maxHeartbeats 4000000
set_option maxRecDepth 100000
namespace Go.Proofs.YtnkocjkkefnelaaGreat
open Go.RowKit
theorem sN {z : Int} (h : (Lit.int .u8 z).wf = true) : 0 ≤ z ∧ z < 256 := by
 simp only [Lit.wf, Bool.and_eq_true, decide_eq_true_eq] at h
 have e1 : IntKind.u8.min = 0 := by decide
 have e2 : IntKind.u8.max = 255 := by decide
 rw [e1, e2] at h
 exact ⟨h.1, by omega⟩
def evRp (e : Ev) : List OV := (evTV e).map .d
section
variable {E : Env} {v j : Nat} {ops : Array Oper} {K : Tm → Store → Prop} {rest : List Oper} {tm : Tm} {σ : Store} {ty : TypeId} {pos : String} {af : Array Edge}
theorem iG {dst : Option Tmp} {x : Operand} {k : IntKind} {n m : Int} (h : ev tm x = some (.int k n)) (he : n = m) (hcont : AO E.P v ops K (j + 1) rest (tm.putO dst (.int k m)) (σ.apply [])) : AO E.P v ops K j (⟨dst, .assign x, ty, pos, af, none⟩ :: rest) tm σ := by
 subst he; exact gE h hcont
end
set_option maxHeartbeats 8000000 in
theorem lawPairs_p (a b c : Int) (ha : 0 ≤ a ∧ a < 256) (hb : 0 ≤ b ∧ b < 256) (hcc : 0 ≤ c ∧ c < 256) : Pure E.P 8 [.int .u8 a, .int .u8 b, .int .u8 c] (.bool true) := by
 have hkn := known8_p
 obtain ⟨n, hn, hn5⟩ : ∃ n : Nat, a.tmod 5 = (n : Int) ∧ n < 5 := ⟨(a % 5).toNat, by rw [Int.tmod_eq_emod_of_nonneg ha.1]; omega, by omega⟩
 obtain ⟨p, hp, hp1, hp2⟩ : ∃ p : Nat, 1 + b.tmod ((n : Int) + 1) = (p : Int) ∧ 1 ≤ p ∧ p ≤ n + 1 := by
  have h1 := Int.emod_nonneg b (show ((n : Int) + 1) ≠ 0 by omega)
  have h2 := Int.emod_lt_of_pos b (show 0 < ((n : Int) + 1) by omega)
  exact ⟨(1 + b % ((n : Int) + 1)).toNat, by rw [Int.tmod_eq_emod_of_nonneg hb.1]; omega, by omega, by omega⟩
 obtain ⟨hfl, hall⟩ := pr_all n hn5 p hp1 hp2
 obtain ⟨q, hq, hq2⟩ : ∃ q : Nat, c.tmod ((prF n p).length : Int) = (q : Int) ∧ q < n + 2 := by
  have h1 := Int.emod_nonneg c (show ((prF n p).length : Int) ≠ 0 by omega)
  have h2 := Int.emod_lt_of_pos c (show 0 < ((prF n p).length : Int) by omega)
  exact ⟨(c % ((prF n p).length : Int)).toNat, by rw [Int.tmod_eq_emod_of_nonneg hcc.1]; omega, by omega⟩
 obtain ⟨hX, hsr, hnn⟩ := hall q hq2
 have n20 : NilS 20 := ⟨trivial⟩
 have n21 : NilS 21 := ⟨trivial⟩
 have n22 : NilS 22 := ⟨trivial⟩
 have n55 : NilS 55 := ⟨trivial⟩
 have k57 : KeyOf 57 23 := ⟨trivial⟩
 have k62 : KeyOf 62 24 := ⟨trivial⟩
 refine fnA Tryz.func8 Tryz.ntmps8 ?_
 refine uB (aoR fun _ => ?_)
 refine q12 (uD (uC (uB (aoR fun _ => ?_))))
 refine q11 ?_
 apply qK; exact rfl; exact rfl; (first | decide | omega)
 apply cO; exact rfl; exact rfl; exact rfl; exact rfl; exact rfl; omega
 apply iG; exact rfl; exact hn
 refine uD (uC (uB (aoR fun _ => ?_)))
 iterate 3 (apply cP; assumption; exact rfl; exact rfl; exact rfl; exact rfl; exact rfl; exact rfl)
 iterate 2 (apply vS; exact rfl; exact rfl; exact rfl; decide; decide; decide; exact rfl; exact rfl)
 refine q54 ?_
 apply xL; exact rfl
 refine q15 (uD (uC (uB (aoR fun _ => ?_))))
 apply vS; exact rfl; exact rfl; exact rfl; decide; decide; decide; exact rfl; exact rfl
 apply cM; exact rfl; exact rfl
 refine uD (uC (uB (aoR fun _ => ?_)))
 refine q11 ?_
 apply cO; exact rfl; exact rfl; exact rfl; exact rfl; exact rfl; omega
 refine q11 ?_; refine q36 ?_
 apply qK; exact rfl; exact rfl; (first | decide | omega)
 refine q36 ?_
 apply iG; exact rfl; exact hp
 refine uD (uC ?_)
 iterate 2 refine uB ?_
 refine aoR fun _ => ?_; refine q12 (uD (uC (vI ?_)))
 rotate_left
 rename_i v2 v3 _ _
 let T1 : Stamp → List Int → Nat → Tm := fun τ9 l i => tmL [(2, .int .u8 c), (7, .int .i64 n), (8, .lo 8 (v2, 6) 3 0 0), (9, .os 9 τ9 1 l.length), (10, .int .i64 p), (11, .int .i64 i)]
 let S1 : Stamp → Stamp → Stamp → List Ev → List Int → List Int → Store := fun τE τF τ9 es fs l => stL [(8, ((v2, 6), ⟨3, [[.os 23 τE 13 es.length, .os 24 τF 1 fs.length, .d (.c (.slice none 0 0))]]⟩)), (23, (τE, ⟨13, es.map evRp⟩)), (24, (τF, ⟨1, fs.map (cellO .i64)⟩)), (9, (τ9, ⟨1, l.map (cellO .i64)⟩))]
 refine awp_mid (X := Stamp × Stamp × Stamp) (fun y => T1 y.2.2 (prL p n) n) (fun y => S1 y.1 y.2.1 y.2.2 (prEs n) (prFs n) (prL p n)) (fun _ => True) ?_ ?_
 ·refine uS (X := Nat × (List Ev × List Int × List Int) × Stamp × Stamp × Stamp) (fun y => T1 y.2.2.2.2 y.2.1.2.2 y.1) (fun y => S1 y.2.2.1 y.2.2.2.1 y.2.2.2.2 y.2.1.1 y.2.1.2.1 y.2.1.2.2) (fun y => y.1 ≤ n ∧ y.2.1 = (prEs y.1, prFs y.1, prL p y.1)) (fun y => n - y.1) (0, (prEs 0, prFs 0, prL p 0), (v2, 3), (v2, 4), (v3, 1)) ⟨Nat.zero_le _, rfl⟩ leP leP ?_
  rintro ⟨i, ⟨es, fs, l⟩, τE, τF, τ9⟩ ⟨hi, he⟩
  dsimp only at hi he ⊢
  have l1 := nO p i
  have l2 := fE i
  have l3 := jW i
  simp only [Prod.mk.injEq] at he
  obtain ⟨e1, e2, e3⟩ := he
  rw [← e3] at l1
  rw [← e1] at l2
  rw [← e2] at l3
  by_cases hlt : i < n
  ·iterate 2 refine uB ?_
   refine aoR fun _ => ?_
   iterate 2 refine q11 ?_
   refine q37 (uD (uC ?_)); refine cnd ?_ ?_
   refine uE fun _ => ?_; try (exfalso; omega)
   refine vE (uC (uB (vI ?_)))
   iterate 2 refine uB ?_
   refine aoR fun _ => ?_; refine q11 ?_; refine q13 ?_; refine q11 ?_; refine q46 (uD (uC ?_))
   refine cnd ?_ ?_
   refine uE fun _ => ?_; try (exfalso; omega)
   refine aoR fun _ => ?_; refine q11 ?_
   apply vS; exact rfl; exact rfl; exact rfl; decide; decide; decide; exact rfl; exact rfl
   refine q19 ?_
   apply cM; exact rfl; exact rfl
   refine uD (uC (uB (aoR fun _ => ?_)))
   iterate 2 refine q11 ?_
   refine q36 ?_
   apply vS; exact rfl; exact rfl; exact rfl; decide; decide; decide; exact rfl; exact rfl
   refine q19 ?_
   apply cM; exact rfl; exact rfl
   refine uD (uC (uB (aoR fun _ => ?_)))
   refine q28 ?_; refine q16 ?_; refine q11 ?_; refine q36 ?_
   apply dP; exact rfl; exact rfl; exact rfl; exact rfl; exact rfl; omega
   apply cP; assumption; exact rfl; exact rfl; exact rfl; exact rfl; exact rfl; exact rfl
   apply vS; exact rfl; exact rfl; exact rfl; decide; decide; decide; exact rfl; exact rfl
   refine q39 ?_; refine q28 ?_; refine q15 (uD (uC (aoR fun _ => ?_)))
   refine q28 ?_; refine q16 ?_
   apply vS; exact rfl; exact rfl; exact rfl; decide; decide; decide; exact rfl; exact rfl
   refine q39 ?_; refine q28 ?_; refine q15 (uD ?_); refine xN ?_; refine uC (aoR fun _ => ?_)
   refine q11 ?_; refine q36 ?_; refine q12 (uD (uC ?_)); rotate_left
   refine uG fun _ => ?_; try (exfalso; omega)
   refine vE (uC (uB (aoR fun _ => ?_)))
   iterate 2 refine q11 ?_
   refine q36 ?_
   apply vS; exact rfl; exact rfl; exact rfl; decide; decide; decide; exact rfl; exact rfl
   refine q19 ?_
   apply cM; exact rfl; exact rfl
   refine uD (uC (uB (aoR fun _ => ?_)))
   refine q28 ?_; refine q16 ?_; refine q11 ?_; refine q36 ?_
   apply dP; exact rfl; exact rfl; exact rfl; exact rfl; exact rfl; omega
   apply cP; assumption; exact rfl; exact rfl; exact rfl; exact rfl; exact rfl; exact rfl
   apply vS; exact rfl; exact rfl; exact rfl; decide; decide; decide; exact rfl; exact rfl
   refine q39 ?_; refine q28 ?_; refine q15 (uD (uC (aoR fun _ => ?_)))
   refine q28 ?_; refine q16 ?_
   apply vS; exact rfl; exact rfl; exact rfl; decide; decide; decide; exact rfl; exact rfl
   refine q39 ?_; refine q28 ?_; refine q15 (uD ?_); refine xN ?_; refine uC (aoR fun _ => ?_)
   refine q11 ?_; refine q36 ?_; refine q12 (uD (uC ?_)); rotate_left
   refine uG fun _ => ?_; try (exfalso; omega)
   ·rename_i hat _ v10 v11 v12 _
    refine uY (i + 1, (es ++ [evp 1 2 (1 + (i : Int)) false], fs ++ [-1], (l ++ [2]) ++ [3 + (i : Int)]), (v11, 7), (v12, 3), (v10, 5)) ⟨by dsimp only; omega, ?_⟩ (by dsimp only; omega) (by repeat' (first | exact vH _ | exact uX _ | refine uH rfl ?_ | refine uR rfl ?_ | (refine uK rfl ?_ ?_; (simp <;> rfl)) | (refine uI rfl ?_ ?_; (simp <;> rfl)) | (refine uM rfl ?_ ?_; (simp <;> rfl)))) (by repeat' (first | exact vH _ | exact uX _ | refine uH rfl ?_ | refine uR rfl ?_ | (refine uK rfl ?_ ?_; (simp <;> rfl)) | (refine uI rfl ?_ ?_; (simp <;> rfl)) | (refine uM rfl ?_ ?_; (simp <;> rfl))))
    dsimp only
    rw [prEs, prFs, prL, prI, ← e1, ← e2, ← e3, if_pos (by omega)]
   ·rename_i hat v10 v11 v12 _
    refine uY (i + 1, (es ++ [evp 1 2 (1 + (i : Int)) false], fs ++ [-1], l ++ [3 + (i : Int)]), (v11, 7), (v12, 3), (v10, 5)) ⟨by dsimp only; omega, ?_⟩ (by dsimp only; omega) (by repeat' (first | exact vH _ | exact uX _ | refine uH rfl ?_ | refine uR rfl ?_ | (refine uK rfl ?_ ?_; (simp <;> rfl)) | (refine uI rfl ?_ ?_; (simp <;> rfl)) | (refine uM rfl ?_ ?_; (simp <;> rfl)))) (by repeat' (first | exact vH _ | exact uX _ | refine uH rfl ?_ | refine uR rfl ?_ | (refine uK rfl ?_ ?_; (simp <;> rfl)) | (refine uI rfl ?_ ?_; (simp <;> rfl)) | (refine uM rfl ?_ ?_; (simp <;> rfl))))
    dsimp only
    rw [prEs, prFs, prL, prI, ← e1, ← e2, ← e3, if_neg (by omega)]
  ·have hi' : i = n := by omega
   subst hi'
   subst e1 e2 e3
   iterate 2 refine uB ?_
   refine aoR fun _ => ?_
   iterate 2 refine q11 ?_
   refine q37 (uD (uC ?_)); refine cnd ?_ ?_
   refine uE fun _ => ?_; try (exfalso; omega)
   refine uG fun _ => ?_; try (exfalso; omega)
   refine vV ?_
   iterate 2 refine wJ ?_
   refine yE ?_; refine uC ?_; rotate_left
   exact ⟨(τE, τF, τ9), trivial, leP, leP⟩
 ·rintro ⟨τE, τF, τ9⟩ _
  dsimp only
  have l1 := nO p n
  have l2 := fE n
  have l3 := jW n
  have hF : prF n p = if (prL p n).length < n + 2 then prL p n ++ [2] else prL p n := rfl
  refine aT (X := Stamp) (fun τ => T1 τ (prF n p) n) (fun τ => S1 τE τF τ (prEs n) (prFs n) (prF n p)) ?_ ?_
  ·generalize prL p n = l at l1 hF
   refine uB (aoR fun _ => ?_)
   refine q11 ?_; refine q13 ?_; refine q11 ?_; refine q36 ?_; refine q37 (uD (uC ?_)); refine cnd ?_ ?_
   refine uE fun _ => ?_; try (exfalso; omega)
   refine aoR fun _ => ?_; refine q11 ?_
   apply vS; exact rfl; exact rfl; exact rfl; decide; decide; decide; exact rfl; exact rfl
   refine q19 ?_
   apply cM; exact rfl; exact rfl
   refine uD ?_; rotate_left
   refine uG fun _ => ?_; try (exfalso; omega)
   refine vE ?_; rotate_left
   ·rename_i hlt v13
    rw [hF, if_pos (by omega)]
    exact pX (v13, 3) (by repeat' (first | exact vH _ | exact uX _ | refine uH rfl ?_ | refine uR rfl ?_ | (refine uK rfl ?_ ?_; (simp <;> rfl)) | (refine uI rfl ?_ ?_; (simp <;> rfl)) | (refine uM rfl ?_ ?_; (simp <;> rfl)))) (by repeat' (first | exact vH _ | exact uX _ | refine uH rfl ?_ | refine uR rfl ?_ | (refine uK rfl ?_ ?_; (simp <;> rfl)) | (refine uI rfl ?_ ?_; (simp <;> rfl)) | (refine uM rfl ?_ ?_; (simp <;> rfl))))
   ·rename_i hlt
    rw [hF, if_neg (by omega)]
    exact pX τ9 leP leP
  intro τ
  clear hF l1
  have hxe : (prX n p q).evs = (prEs n).set 1 { evp 0 1 0 true with rval := ((prEs n).getD (prSrc n p q) default).val } := rfl
  have hxf : (prX n p q).from_ = (prFs n).set 1 (prSrc n p q : Int) := rfl
  have hxo : (prX n p q).order = [(default, prF n p)] := rfl
  have hsrc : prSrc n p q = if (prF n p).getD q 0 = 2 then 0 else ((prF n p).getD q 0).toNat := rfl
  have hrel := exD_rel hX
  generalize prX n p q = x at hxe hxf hxo hX hrel
  generalize prSrc n p q = sr at hxe hxf hsr hsrc
  generalize prF n p = l at hfl hq hnn hxo hsrc
  have hone : (prEs n).getD (Int.toNat 1) default = evp 0 1 0 true := by rw [List.getD_eq_getElem?_getD]; show ((prEs n)[1]?).getD default = _; rw [oW]; rfl
  generalize prEs n = es at l2 hxe hone
  generalize prFs n = fs at l3 hxf
  have z9 := FzR.ints l
  have f73 : Frozen 73 := ⟨trivial⟩
  refine xB 9 τ 1 (l.map cell) (tmL [(2, .int .u8 c), (8, .lo 8 (v2, 6) 3 0 0), (9, .d (ints l))]) (stL [(8, ((v2, 6), ⟨3, [[.os 23 τE 13 es.length, .os 24 τF 1 fs.length, .d (.c (.slice none 0 0))]]⟩)), (23, (τE, ⟨13, es.map evRp⟩)), (24, (τF, ⟨1, fs.map (cellO .i64)⟩))]) (by rw [← z9.eq]; rfl) (by repeat' (first | exact yD | exact aH | exact dF | exact dE | refine vT rfl (.same _) ?_ | refine vT rfl (wK (by simp)) ?_ | refine wZ (by decide) rfl (FrozR.same _) ?_ | refine wZ (by decide) rfl ?_ ?_ | refine xS fN ?_ | refine xS ?_ ?_ | refine vX (.same _) ?_ | refine vX (wK (by first | rfl | simp)) ?_ | refine vX (.nil _) ?_)) (by repeat' (first | exact yD | exact aH | exact dF | exact dE | refine vT rfl (.same _) ?_ | refine vT rfl (wK (by simp)) ?_ | refine wZ (by decide) rfl (FrozR.same _) ?_ | refine wZ (by decide) rfl ?_ ?_ | refine xS fN ?_ | refine xS ?_ ?_ | refine vX (.same _) ?_ | refine vX (wK (by first | rfl | simp)) ?_ | refine vX (.nil _) ?_)) ?_
  let S2 : List Ev → List Int → Store := fun es' fs' => stL [(8, ((v2, 6), ⟨3, [[.os 23 τE 13 es.length, .os 24 τF 1 fs.length, .d (rowsTV [(default, l)])]]⟩)), (23, (τE, ⟨13, es'.map evRp⟩)), (24, (τF, ⟨1, fs'.map (cellO .i64)⟩))]
  refine aT (X := Unit) (fun _ => tmL [(2, .int .u8 c), (8, .lo 8 (v2, 6) 3 0 0), (9, .d (ints l))]) (fun _ => S2 es fs) ?_ fun _ => ?_
  ·refine aoR fun _ => ?_
   refine q11 ?_
   (apply aI; assumption; exact rfl; exact rfl; exact rfl; decide; decide; decide; exact rfl; exact rfl; (repeat (first | exact FzR.nil | exact FzR.ints _ | exact FzR.d _ | exact hfz _ | exact FzC.map _ | exact FzC.nil | apply FzR.take | apply FzR.drop | apply FzR.app | apply FzR.cons | apply FzC.cons | assumption)); (first | rfl | (first | omega | (simp only [List.length_append, List.length_map, List.length_take, List.length_drop, List.length_cons, List.length_nil, List.length_replicate, vJ] <;> omega))))
   refine q28 ?_; refine q15 (uD ?_); rotate_left
   exact pX () leP leP
  have hqi : l.getD (c.tmod (l.length : Int)).toNat (default : Int) = l.getD q 0 := by rw [hq]; rfl
  refine aT (X := Unit) (fun _ => tmL [(8, .lo 8 (v2, 6) 3 0 0), (12, .int .i64 (l.getD q 0))]) (fun _ => S2 es fs) ?_ fun _ => ?_
  ·refine aoR fun _ => ?_
   iterate 2 refine q11 ?_
   apply cO; exact rfl; exact rfl; exact rfl; exact rfl; exact rfl; omega
   refine q11 ?_; refine q13 ?_
   apply qK; exact rfl; exact rfl; (first | decide | omega)
   refine q17 ?_; refine q23 ?_
   apply iG; exact rfl; exact hqi
   refine uD ?_; rotate_left
   exact pX () leP leP
  refine aT (X := Unit) (fun _ => tmL [(8, .lo 8 (v2, 6) 3 0 0), (12, .int .i64 sr)]) (fun _ => S2 es fs) ?_ fun _ => ?_
  ·refine uB (aoR fun _ => ?_)
   refine q11 ?_; refine q46 (uD (uC ?_)); refine cnd ?_ ?_
   refine uE fun _ => ?_; try (exfalso; omega)
   refine aoR fun _ => ?_; refine q12 (uD ?_)
   rotate_left
   refine uG fun _ => ?_; try (exfalso; omega)
   refine vE ?_; rotate_left
   ·exact pX () (by repeat' (first | exact vH _ | exact uX _ | refine uH rfl ?_ | refine uR rfl ?_ | (refine uK rfl ?_ ?_; ((first | omega | (rw [hsrc]; split <;> omega)))) | (refine uI rfl ?_ ?_; ((first | omega | (rw [hsrc]; split <;> omega)))) | (refine uM rfl ?_ ?_; ((first | omega | (rw [hsrc]; split <;> omega)))))) leP
   ·exact pX () (by repeat' (first | exact vH _ | exact uX _ | refine uH rfl ?_ | refine uR rfl ?_ | (refine uK rfl ?_ ?_; ((first | omega | (rw [hsrc]; split <;> omega)))) | (refine uI rfl ?_ ?_; ((first | omega | (rw [hsrc]; split <;> omega)))) | (refine uM rfl ?_ ?_; ((first | omega | (rw [hsrc]; split <;> omega)))))) leP
  refine aT (X := Unit) (fun _ => tmL [(8, .lo 8 (v2, 6) 3 0 0), (12, .int .i64 sr)]) (fun _ => S2 es (fs.set 1 sr)) ?_ fun _ => ?_
  ·refine aoR fun _ => ?_
   refine q28 ?_; refine q16 ?_; refine q11 ?_
   apply zO; exact rfl; exact rfl; exact rfl; exact rfl; exact rfl; exact rfl; omega
   refine q15 (uD ?_); rotate_left
   exact pX () leP (by repeat' (first | exact vH _ | exact uX _ | refine uH rfl ?_ | refine uR rfl ?_ | (refine uK rfl ?_ ?_; (exact (List.map_set (f := cellO .i64)).symm)) | (refine uI rfl ?_ ?_; (exact (List.map_set (f := cellO .i64)).symm)) | (refine uM rfl ?_ ?_; (exact (List.map_set (f := cellO .i64)).symm))))
  refine aT (X := Unit) (fun _ => tmL [(8, .lo 8 (v2, 6) 3 0 0)]) (fun _ => S2 x.evs (fs.set 1 sr)) ?_ fun _ => ?_
  ·refine uU (E := E) ?_ (fun _ => ?_); exact rfl
   refine q56 ?_
   apply aU; exact rfl; exact rfl; exact rfl; exact rfl; (first | exact rfl | exact vB (by omega) (0 : Int) | exact vB (by omega) default | exact hrow _ | assumption); exact rfl
   refine q56 ?_
   apply aU; exact rfl; exact rfl; exact rfl; exact rfl; (first | exact rfl | exact vB (by omega) (0 : Int) | exact vB (by omega) default | exact hrow _ | assumption); exact rfl
   refine q38 ?_
   apply yG; exact rfl; exact rfl; exact rfl; exact rfl; exact rfl; exact rfl; omega
   refine q56 ?_
   apply aU; exact rfl; exact rfl; exact rfl; exact rfl; (first | exact rfl | exact vB (by omega) (0 : Int) | exact vB (by omega) default | exact hrow _ | assumption); exact rfl
   apply yG; exact rfl; exact rfl; exact rfl; exact rfl; exact rfl; exact rfl; omega
   refine q56 ?_
   apply jL; exact rfl; exact rfl; exact rfl; exact rfl; exact rfl; exact rfl; (first | exact rfl | exact vB (by omega) (0 : Int) | exact vB (by omega) default | exact wB (by omega) (by omega) (0 : Int) | assumption); exact Nat.le_of_ble_eq_true rfl
   refine gT ?_ ?_; (first | ((try dsimp only [wkeys]); decide +kernel) | exact rfl)
   rotate_left
   exact pX () leP (by repeat' (first | exact vH _ | exact uX _ | refine uH rfl ?_ | refine uR rfl ?_ | (refine uK rfl ?_ ?_; ((rw [hone, hxe, List.map_set]; rfl))) | (refine uI rfl ?_ ?_; ((rw [hone, hxe, List.map_set]; rfl))) | (refine uM rfl ?_ ?_; ((rw [hone, hxe, List.map_set]; rfl)))))
  have hxl : x.evs.length = n + 3 := by rw [hxe, List.length_set, l2]
  have hxfl : x.from_.length = n + 3 := by rw [hxf, List.length_set, l3]
  have z23 : FzR (x.evs.map evRp) (x.evs.map evTV) := FzR.of (f := evRp) (g := evTV) (fun _ => rfl) _
  have z24 := FzR.ints x.from_
  rw [← hxf]
  refine xB 23 τE 13 (x.evs.map evTV) (tmL [(8, .lo 8 (v2, 6) 3 0 0)]) (stL [(8, ((v2, 6), ⟨3, [[.d (evsTV x.evs), .os 24 τF 1 fs.length, .d (rowsTV [(default, l)])]]⟩)), (24, (τF, ⟨1, x.from_.map (cellO .i64)⟩))]) (by rw [← z23.eq]; rfl) (by repeat' (first | exact yD | exact aH | exact dF | exact dE | refine vT rfl (.same _) ?_ | refine vT rfl (wK (by simp)) ?_ | refine wZ (by decide) rfl (FrozR.same _) ?_ | refine wZ (by decide) rfl ?_ ?_ | refine xS fN ?_ | refine xS ?_ ?_ | refine vX (.same _) ?_ | refine vX (wK (by first | rfl | simp)) ?_ | refine vX (.nil _) ?_)) (wZ (by decide) rfl (xS (vX (wK (by rw [List.length_map, hxl, l2])) (vX (.same _) (vX (.same _) dF))) dE) (wZ (by decide) rfl (.same _) aH)) ?_
  refine xB 24 τF 1 (x.from_.map cell) (tmL [(8, .lo 8 (v2, 6) 3 0 0)]) (stL [(8, ((v2, 6), ⟨3, [[.d (evsTV x.evs), .d (ints x.from_), .d (rowsTV [(default, l)])]]⟩))]) (by rw [← z24.eq]; rfl) (by repeat' (first | exact yD | exact aH | exact dF | exact dE | refine vT rfl (.same _) ?_ | refine vT rfl (wK (by simp)) ?_ | refine wZ (by decide) rfl (FrozR.same _) ?_ | refine wZ (by decide) rfl ?_ ?_ | refine xS fN ?_ | refine xS ?_ ?_ | refine vX (.same _) ?_ | refine vX (wK (by first | rfl | simp)) ?_ | refine vX (.nil _) ?_)) (wZ (by decide) rfl (xS (vX (.same _) (vX (wK (by rw [List.length_map, hxfl, l3])) (vX (.same _) dF))) dE) aH) ?_
  rw [← hxo]
  have hc := hrel.check
  have hfit := hrel.fit
  obtain ⟨e1, e2, _⟩ := judge_ok hc
  have hJ := sI x hfit (by omega)
  have hA := iK x hfit (by omega)
  have hC := rcheck_p x hfit.1 (fun e he => (hfit.1.2.1 e he).bare)
  have hM := rmoving_p x (by omega)
  have h1 := Ren.rcoherent_p x hrel (by omega)
  have h3 := mA x hrel
  have hB := byAxioms_p x hrel (gI hfit.1 hc)
  have eB : byAxB x = allowB x := byAx_eq hrel
  rw [eB] at hB
  rw [e1] at hJ
  rw [e2] at hA
  rw [hc] at hC
  have eJ : judB x = (!circleB x.evs.length (rcohL x), !circleB x.evs.length (gloL x), ratB x) := rfl
  rw [eJ] at hJ
  dsimp only at hJ hA
  generalize allowB x = w at hA hB
  generalize (!circleB x.evs.length (rcohL x)) = w1 at h1 hJ
  generalize (!circleB x.evs.length (gloL x)) = w2 at hJ
  generalize ratB x = w3 at h3 hJ
  generalize movN x x.evs.length = mv at hM
  refine uB (aoR fun _ => ?_)
  refine q14 ?_
  apply uO; exact rfl; exact .fn _ _ _; exact rfl; (exact hJ)
  refine q11 ?_
  iterate 2 (apply yM; exact rfl; exact rfl)
  apply xL; exact rfl
  refine q15 ?_; refine q12 (uD (uC (uB (aoR fun _ => ?_))))
  refine q14 ?_
  apply uO; exact rfl; exact .fn _ _ _; exact rfl; (exact hA)
  refine q11 ?_
  iterate 2 (apply yM; exact rfl; exact rfl)
  iterate 2 refine q12 ?_
  refine uD (uC (uB ?_))
  refine uU (E := E) ?_ (fun _ => ?_); exact rfl
  refine q57 ?_
  apply wM; exact rfl; exact .fn _ _ _; exact rfl; (exact hC)
  apply sJ; exact rfl; exact rfl
  refine q38 ?_
  apply dpT; exact rfl
  intro hc_; refine q1
  apply dpT; exact rfl
  intro hc_; refine q7; refine q9 ?_; refine q38 ?_
  apply dpT; exact rfl
  intro hc_; refine q1
  apply dpT; exact rfl
  intro hc_; refine q7; refine q9 ?_; refine q38 ?_
  apply dpT; exact rfl
  intro hc_; refine q2
  apply dpT; exact rfl
  intro hc_; refine q3
  apply dpT; exact rfl
  intro hc_; refine q27
  apply dpT; exact rfl
  intro hc_
  have hp_ := hc_; try simp only [nrm] at hp_
  apply vA; (exact EvM.plain rfl rfl); exact .fn _ _ _; exact vQ; (exact h3)
  apply dpT; exact rfl
  intro hc_
  apply oC; exact rfl; exact rfl; exact evm; exact evm
  refine q9 ?_; refine q38 ?_
  apply dpT; exact rfl
  intro hc_; refine q2
  apply dpT; exact rfl
  intro hc_; refine q3
  apply dpT; exact rfl
  intro hc_; refine q27
  apply dpT; exact rfl
  intro hc_
  have hp_ := hc_; try simp only [nrm] at hp_
  apply vA; (exact EvM.plain rfl rfl); exact .fn _ _ _; exact vQ; (exact h1)
  apply dpT; exact rfl
  intro hc_
  apply oC; exact rfl; exact rfl; exact evm; exact evm
  refine q9 ?_; refine q38 ?_
  apply dpT; exact rfl
  intro hc_; refine q27
  apply dpT; exact rfl
  intro hc_
  have hp_ := hc_; try simp only [nrm] at hp_
  apply vA; (exact EvM.plain rfl rfl); exact .fn _ _ _; exact vQ; (exact hM)
  apply dpT; exact rfl
  intro hc_; refine q35
  apply dpT; exact rfl
  intro hc_; refine q1
  apply aR; exact rfl; exact rfl
  intro hc_; refine q1
  apply aR; exact rfl; exact rfl
  intro hc_; refine q27
  apply aR; exact rfl; exact rfl
  intro hc_
  have hp_ := hc_; try simp only [nrm] at hp_
  apply vA; (exact EvM.plain rfl rfl); exact .fn _ _ _; exact vQ; (exact hB)
  apply aR; exact rfl; exact rfl
  intro hc_
  apply oC; exact rfl; exact rfl; exact evm; exact evm
  apply dpT; exact rfl
  intro hc_; refine q24; refine q9 ?_; refine q38 ?_
  apply dpT; exact rfl
  intro hc_
  have hp_ := hc_; try simp only [nrm] at hp_
  apply vA; (exact EvM.plain rfl rfl); exact .fn _ _ _; exact vQ; (exact hkn)
  refine q9 ?_
  apply gG; exact rfl
  refine gT ?_ ?_; (first | ((try dsimp only [wkeys]); decide +kernel) | exact rfl)
  refine uC ?_; refine wF ?_; rotate_left
  exact uV rfl (by simp)
end Go.Proofs.YtnkocjkkefnelaaGreat
