/- Parts. -/
import Derived.Test.YtnkocjkkefnelaaGreatPs4
import Derived.Test.YtnkocjkkefnelaaGreatPs6
import Derived.Test.YtnkocjkkefnelaaGreatPs9
import Derived.Test.YtnkocjkkefnelaaGreatPs11
import Derived.Test.YtnkocjkkefnelaaGreatPs16
set_option linter.unusedVariables false
set_option linter.unusedSimpArgs false
set_option maxHeartbeats 4000000
set_option maxHeartbeats 4000000
set_option maxRecDepth 100000
namespace Go.Proofs.YtnkocjkkefnelaaGreat
open Go.RowKit
theorem check_3 (x : Ex) (h : 64 < x.evs.length) : checkI x = 3 := by unfold checkI; rw [if_pos h]
theorem mS (x : Ex) (h : ¬ 64 < x.evs.length) (k : Nat) (hk : k < x.evs.length) (he : evOk x.evs (addrsTo x.evs) k = false) : checkI x = 160 := by
 unfold checkI; rw [if_neg h, if_pos (iS _ _ k hk he)]
theorem gW (x : Ex) (h : ¬ 64 < x.evs.length) (he : evsTo x.evs (addrsTo x.evs) x.evs.length = true) (hf : fromB x.evs x.from_ = false) : checkI x = 161 := by
 unfold checkI; rw [if_neg h, if_neg (by rw [he]; decide), if_pos hf]
theorem gV (x : Ex) (h : ¬ 64 < x.evs.length) (he : evsTo x.evs (addrsTo x.evs) x.evs.length = true) (hf : fromB x.evs x.from_ = true) (ho : orderB x.evs (addrsTo x.evs) x.order = false) : checkI x = 162 := by
 unfold checkI; rw [if_neg h, if_neg (by rw [he]; decide), if_neg (by rw [hf]; decide), if_pos ho]
theorem check_0 (x : Ex) (h : ¬ 64 < x.evs.length) (he : evsTo x.evs (addrsTo x.evs) x.evs.length = true) (hf : fromB x.evs x.from_ = true) (ho : orderB x.evs (addrsTo x.evs) x.order = true) : checkI x = 0 := by
 unfold checkI; rw [if_neg h, if_neg (by rw [he]; decide), if_neg (by rw [hf]; decide), if_neg (by rw [ho]; decide)]
theorem uAM (a : Int) : (a.tmod 4 = 0) = (a % 4 = 0) := by
 rw [← Int.dvd_iff_tmod_eq_zero, ← Int.dvd_iff_emod_eq_zero]
theorem evOk_false1 (es : List Ev) (ad : List Int) (k : Nat) (hb : (es.getD k default).bareB = (es.getD k default).rbareB)
  (h : ((((es.getD k default).rbareB = false ∨ ¬ (es.getD k default).addr % 4 = 0) ∨ hangsB es k (es.getD k default).addrs = false) ∨ hangsB es k (es.getD k default).datas = false) ∨ hangsB es k (es.getD k default).ctrls = false) : evOk es ad k = false := by
 unfold evOk evPre
 rw [hb]
 rcases h with (((h | h) | h) | h) | h <;> simp [h, -List.getD_eq_getElem?_getD]
theorem evOk_false2 (es : List Ev) (ad : List Int) (k : Nat)
  (h : (decide ((es.getD k default).kind = 5) ≠ decide (k < ad.length) ∨ (es.getD k default).kind = 5 ∧ ¬ (es.getD k default).addr = ad.getD (if (ad.length : Int) - 1 < k then (ad.length : Int) - 1 else k).toNat 0) ∨
   ¬ (es.getD k default).kind = 5 ∧ (((es.getD k default).hart < 0 ∨ 3 < (es.getD k default).hart) ∨ ad.length < k ∧ (es.getD k default).hart < (es.getD (k - 1) default).hart)) : evOk es ad k = false := by
 unfold evOk
 by_cases hk : k < ad.length
 ·have e2 : (if (ad.length : Int) - 1 < k then (ad.length : Int) - 1 else k).toNat = k := by rw [if_neg (by omega)]; exact Int.toNat_natCast k
  rw [e2] at h
  rw [if_pos hk]
  by_cases h5 : (es.getD k default).kind = 5
  ·simp [hk, h5, -List.getD_eq_getElem?_getD] at h
   simp [h5, h, -List.getD_eq_getElem?_getD]
  ·simp [h5, -List.getD_eq_getElem?_getD]
 ·rw [if_neg hk]
  by_cases h5 : (es.getD k default).kind = 5
  ·simp [h5, -List.getD_eq_getElem?_getD]
  ·simp [hk, h5, -List.getD_eq_getElem?_getD] at h
   simp only [Bool.and_eq_false_iff, Bool.or_eq_false_iff, decide_eq_false_iff_not, beq_eq_false_iff_ne]
   omega
theorem evOk_true (es : List Ev) (ad : List Int) (k : Nat) (hb : (es.getD k default).bareB = (es.getD k default).rbareB)
  (h1 : (es.getD k default).rbareB = true) (h2 : (es.getD k default).addr % 4 = 0) (h3 : hangsB es k (es.getD k default).addrs = true) (h4 : hangsB es k (es.getD k default).datas = true) (h5 : hangsB es k (es.getD k default).ctrls = true)
  (h6 : decide ((es.getD k default).kind = 5) = decide (k < ad.length)) (h7 : ¬ (es.getD k default).kind = 5 ∨ (es.getD k default).addr = ad.getD (if (ad.length : Int) - 1 < k then (ad.length : Int) - 1 else k).toNat 0)
  (h8 : (es.getD k default).kind = 5 ∨ (0 ≤ (es.getD k default).hart ∧ (es.getD k default).hart ≤ 3) ∧ ((k : Int) ≤ ad.length ∨ (es.getD (k - 1) default).hart ≤ (es.getD k default).hart)) : evOk es ad k = true := by
 unfold evOk evPre
 rw [hb]
 by_cases hk : k < ad.length
 ·have e2 : (if (ad.length : Int) - 1 < k then (ad.length : Int) - 1 else k).toNat = k := by rw [if_neg (by omega)]; exact Int.toNat_natCast k
  rw [e2] at h7
  simp only [hk, decide_true, decide_eq_true_eq] at h6
  simp only [h6, not_true, false_or] at h7
  rw [h7] at h2
  simp [h1, h2, h3, h4, h5, h6, h7, hk, -List.getD_eq_getElem?_getD]
 ·simp only [hk, decide_false, decide_eq_false_iff_not] at h6
  simp only [h6, false_or] at h8
  simp only [h1, h2, h3, h4, h5, hk, if_false, Bool.and_eq_true, Bool.or_eq_true, decide_eq_true_eq, beq_iff_eq, bne_iff_ne, ne_eq, h6, not_false_eq_true, true_and, and_true, beq_self_eq_true]
  omega
theorem fromOk_false1 {es : List Ev} {fs : List Int} {k : Nat} (h : (es.getD k default).ldB = false) (h1 : ¬ fs.getD k 0 = -1) : fromOk es fs k = false := by
 unfold fromOk; simp [h, h1, -List.getD_eq_getElem?_getD]
theorem fromOk_true1 {es : List Ev} {fs : List Int} {k : Nat} (h : (es.getD k default).ldB = false) (h1 : fs.getD k 0 = -1) : fromOk es fs k = true := by
 unfold fromOk; simp [h, h1, -List.getD_eq_getElem?_getD]
theorem fromOk_false2 {es : List Ev} {fs : List Int} {k : Nat} (h : (es.getD k default).ldB = true)
  (h1 : ((((fs.getD k 0 < 0 ∨ (es.length : Int) ≤ fs.getD k 0) ∨ fs.getD k 0 = k) ∨ (es.getD (fs.getD k 0).toNat default).stB = false) ∨ ¬ (es.getD (fs.getD k 0).toNat default).addr = (es.getD k default).addr) ∨
   ¬ (es.getD (fs.getD k 0).toNat default).val = (es.getD k default).rval) : fromOk es fs k = false := by
 unfold fromOk srcOk
 rcases h1 with ((((h1 | h1) | h1) | h1) | h1) | h1 <;> simp [h, h1, -List.getD_eq_getElem?_getD]
theorem fromOk_true2 {es : List Ev} {fs : List Int} {k : Nat} (h : (es.getD k default).ldB = true)
  (h1 : ¬ fs.getD k 0 < 0) (h2 : ¬ (es.length : Int) ≤ fs.getD k 0) (h3 : ¬ fs.getD k 0 = k) (h4 : (es.getD (fs.getD k 0).toNat default).stB = true) (h5 : (es.getD (fs.getD k 0).toNat default).addr = (es.getD k default).addr)
  (h6 : (es.getD (fs.getD k 0).toNat default).val = (es.getD k default).rval) : fromOk es fs k = true := by
 unfold fromOk srcOk
 simp [h, h1, h2, h3, h4, h5, h6, -List.getD_eq_getElem?_getD]
theorem iP : ∀ (w l : List Int), w.Nodup → (∀ m ∈ w, m ∈ l) → l.length ≤ w.length → w.Perm l
 | [], l, _, _, h => by
  have : l = [] := List.eq_nil_of_length_eq_zero (by simpa using h)
  rw [this]
 | m :: w, l, hn, hs, h => by
  rw [List.nodup_cons] at hn
  have hm : m ∈ l := hs m (by simp)
  refine ((iP w (l.erase m) hn.2 (fun x hx => ?_) ?_).cons m).trans (List.perm_cons_erase hm).symm
  ·exact (List.mem_erase_of_ne (fun e => by subst e; exact hn.1 hx)).2 (hs x (by simp [hx]))
  ·rw [List.length_erase_of_mem hm]; simp at h; omega
theorem aD (es : List Ev) (A : Int) (n : Nat) : (wantTo es A n).Pairwise (· < ·) := by
 unfold wantTo
 rw [List.pairwise_map]
 refine (List.Pairwise.filter _ List.pairwise_lt_range).imp ?_
 intro a b h; exact Int.ofNat_lt.2 h
theorem pG {es : List Ev} {A : Int} {n : Nat} {m : Int} : m ∈ wantTo es A n ↔ ∃ i : Nat, i < n ∧ m = i ∧ (es.getD i default).stB = true ∧ (es.getD i default).addr = A := by
 unfold wantTo
 simp only [List.mem_map, List.mem_filter, List.mem_range, Bool.and_eq_true, beq_iff_eq]
 constructor
 ·rintro ⟨i, ⟨h1, h2, h3⟩, rfl⟩; exact ⟨i, h1, rfl, h2, h3⟩
 ·rintro ⟨i, h1, rfl, h2, h3⟩; exact ⟨i, ⟨h1, h2, h3⟩, rfl⟩
theorem lI (es : List Ev) (A : Int) (n : Nat) : wantTo es A (n + 1) = wantTo es A n ++ if (es.getD n default).stB = true ∧ (es.getD n default).addr = A then [(n : Int)] else [] := by
 unfold wantTo
 rw [List.range_succ, List.filter_append, List.map_append]
 congr 1
 rw [List.filter_cons]
 by_cases h : (es.getD n default).stB = true ∧ (es.getD n default).addr = A
 ·rw [if_pos h, if_pos (by simp only [h.1, h.2, beq_self_eq_true, Bool.and_self])]; rfl
 ·rw [if_neg h, if_neg (fun e => h (by simpa only [Bool.and_eq_true, beq_iff_eq] using e))]; rfl
theorem sort_want (es : List Ev) (A : Int) (n : Nat) (l : List Int) (hs : ∀ m ∈ wantTo es A n, m ∈ l) (hl : l.length = (wantTo es A n).length) : sortI l = wantTo es A n := by
 have hp := iP _ l ((aD es A n).imp (fun h => by omega)) hs (by omega)
 refine List.Perm.eq_of_pairwise (le := fun a b : Int => a ≤ b) (fun a b _ _ h1 h2 => by omega) ?_ ((aD es A n).imp (fun h => by omega)) ((List.mergeSort_perm l _).trans hp.symm)
 refine (List.pairwise_mergeSort (le := fun x y : Int => decide (x ≤ y)) (fun a b c h1 h2 => by simp at *; omega) (fun a b => by simp; omega) l).imp ?_
 intro a b h; simpa using h
theorem rowOk_true {es : List Ev} {ad : List Int} {a : Nat} {l : List Int} (hs : ∀ m ∈ wantTo es (ad.getD a 0) es.length, m ∈ l) (hp : 0 < (wantTo es (ad.getD a 0) es.length).length) (hl : l.length = (wantTo es (ad.getD a 0) es.length).length) (h0 : l.getD 0 0 = a) : rowOk es ad a l = true := by
 have := sort_want es (ad.getD a 0) es.length l hs hl
 unfold rowOk
 rw [this, h0]
 simp
 intro e; subst e; rw [← hl] at hp; exact absurd hp (by decide)
theorem rowOk_false1 {es : List Ev} {ad : List Int} {a : Nat} {l : List Int} (h : ¬ l.length = (wantTo es (ad.getD a 0) es.length).length ∨ ¬ l.getD 0 0 = a) : rowOk es ad a l = false := by
 unfold rowOk
 rcases h with h | h
 ·have : (sortI l == wantTo es (ad.getD a 0) es.length) = false := by
   rw [beq_eq_false_iff_ne]
   intro e
   apply h
   rw [← e]; exact (List.length_mergeSort l).symm
  rw [this, Bool.and_false]
 ·have : (l.getD 0 0 != (a : Int)) = true := by simpa only [bne_iff_ne, ne_eq] using h
  rw [this]; simp
theorem rowOk_false2 {es : List Ev} {ad : List Int} {a : Nat} {l : List Int} {m : Int} (h : m ∈ wantTo es (ad.getD a 0) es.length) (hn : m ∉ l) : rowOk es ad a l = false := by
 unfold rowOk
 have : (sortI l == wantTo es (ad.getD a 0) es.length) = false := by
  rw [beq_eq_false_iff_ne]
  intro e
  rw [← e] at h
  exact hn ((List.mergeSort_perm l _).mem_iff.1 h)
 rw [this, Bool.and_false]
theorem kO (n : Int) : ∀ (l : List Int) (k : Nat), atFrom n l k < 0 ↔ n ∉ l
 | [], k => by simp [atFrom]
 | a :: l, k => by
  rw [atFrom]
  split
  ·rename_i h; subst h; simp
  ·rename_i h; rw [kO n l (k + 1)]; simp [Ne.symm h]
theorem sI (l : List Int) (n : Int) : atI l n < 0 ↔ n ∉ l := kO n l 0
theorem rowsTo_succ' (es : List Ev) (ad : List Int) (rows : List (Sl × List Int)) (k : Nat) : rowsTo es ad rows (k + 1) = (rowsTo es ad rows k && rowOk es ad k (rows.getD k default).2) := by
 simp [rowsTo, List.range_succ]
theorem iR {es : List Ev} {ad : List Int} {rows : List (Sl × List Int)} {k : Nat} (hk : k < rows.length) (h : rowOk es ad k (rows.getD k default).2 = false) : orderB es ad rows = false := by
 have : rowsTo es ad rows rows.length = false := by
  unfold rowsTo
  rw [List.all_eq_false]
  exact ⟨k, by simpa using hk, by rw [h]; decide⟩
 unfold orderB; rw [this, Bool.and_false]
theorem evs_stores {es : List Ev} {ad : List Int} (h : evsTo es ad es.length = true) (hl : ad.length ≤ es.length) {a : Nat} (ha : a < ad.length) : (a : Int) ∈ wantTo es (ad.getD a 0) es.length := by
 unfold evsTo at h
 rw [List.all_eq_true] at h
 have h1 := h a (by simp; omega)
 unfold evOk at h1
 rw [if_pos ha] at h1
 simp only [Bool.and_eq_true, beq_iff_eq] at h1
 obtain ⟨_, h2, h3⟩ := h1
 exact pG.2 ⟨a, by omega, rfl, by unfold Ev.stB; simp [h2, -List.getD_eq_getElem?_getD], h3⟩
set_option maxHeartbeats 4000000 in
theorem rcheck_p (x : Ex) (hok : x.ok) (hbare : ∀ e ∈ x.evs, e.bareB = e.rbareB) :
  Pure E.P 12 [exOV x] (.int .i64 (checkI x)) := by
 obtain ⟨hx, hoe, hf, ho, hor⟩ := hok
 have hev : ∀ i, (x.evs.getD i default).addrs.length ≤ 1152921504606846976 ∧ (x.evs.getD i default).datas.length ≤ 1152921504606846976 ∧ (x.evs.getD i default).ctrls.length ≤ 1152921504606846976 := fun i => by
  rcases Nat.lt_or_ge i x.evs.length with h | h
  ·rw [List.getD_eq_getElem?_getD, List.getElem?_eq_getElem h]
   exact ⟨(hoe _ (List.getElem_mem h)).2.1, (hoe _ (List.getElem_mem h)).2.2.1, (hoe _ (List.getElem_mem h)).2.2.2.1⟩
  ·rw [List.getD_eq_getElem?_getD, List.getElem?_eq_none h]
   decide
 have hlA := fun i => (hev i).1
 have hlD := fun i => (hev i).2.1
 have hlC := fun i => (hev i).2.2
 have hlO : ∀ i, (x.order.getD i default).2.length ≤ 1152921504606846976 := fun i => by
  rcases Nat.lt_or_ge i x.order.length with h | h
  ·rw [List.getD_eq_getElem?_getD, List.getElem?_eq_getElem h]
   exact hor _ (List.getElem_mem h)
  ·rw [List.getD_eq_getElem?_getD, List.getElem?_eq_none h]
   decide
 have hB : ∀ i, i < x.evs.length → (x.evs.getD i default).bareB = (x.evs.getD i default).rbareB := fun i h => by
  rw [List.getD_eq_getElem?_getD, List.getElem?_eq_getElem h]
  exact hbare _ (List.getElem_mem h)
 clear hev hor hoe hbare
 refine fnA Tryz.func12 Tryz.ntmps12 ?_
 refine run ?_; refine aoR fun _ => ?_
 refine run ?_; refine aoR fun _ => ?_
 refine run ?_; refine aoR fun _ => ?_
 refine run ?_; refine cnd ?_ ?_
 refine uF fun _ => ?_; try omega
 refine run ?_; refine aoR fun _ => ?_
 refine run ?_; rotate_left
 refine uI fun _ => ?_; try omega
 refine run ?_; refine aoR fun _ => ?_
 refine run ?_
 apply gD; exact rfl; exact .fn _ _ _; exact rfl; exact raddrs_p _ (by omega)
 refine run ?_; refine aoR fun _ => ?_
 refine run ?_; refine aoR fun _ => ?_
 refine run ?_; rotate_left
 ·exact wG rfl (check_3 x (by omega)).symm
 rename_i v1 v2 v3 h64 v4 v5 v6
 obtain ⟨ad, had⟩ : ∃ ad, addrsTo x.evs = ad := ⟨_, rfl⟩
 have hadl : ad.length ≤ x.evs.length := by rw [← had]; exact xZ _
 refine uT (X := Nat) (fun k => tmL [(1, .lo 1 (v1, 0) 3 0 0), (3, .int .i64 x.evs.length), (4, .os 4 (v4, 2) 1 ad.length), (5, .int .i64 ad.length), (6, .int .i64 k)]) (fun _ => stL [(1, ((v1, 0), ⟨3, [(exOV x).cells]⟩)), (4, ((v4, 2), ⟨1, ad.map (cellO .u32)⟩))])
  (fun k => k ≤ x.evs.length ∧ evsTo x.evs ad k = true) (fun k => x.evs.length - k) 0 ⟨Nat.zero_le _, rfl⟩ (by repeat' (first | exact vW _ | exact vP _ | refine uL rfl ?_ | refine vH rfl ?_ | (refine vF rfl ?_ ?_; (rw [had]; try simp)) | (refine uR rfl ?_ ?_; (rw [had]; try simp)) | (refine uS rfl ?_ ?_; (rw [had]; try simp)))) (by repeat' (first | exact vW _ | exact vP _ | refine uL rfl ?_ | refine vH rfl ?_ | (refine vF rfl ?_ ?_; (rw [had]; try simp)) | (refine uR rfl ?_ ?_; (rw [had]; try simp)) | (refine uS rfl ?_ ?_; (rw [had]; try simp)))) ?_
 intro k hk
 obtain ⟨hk, ht⟩ := hk
 refine run ?_; refine aoR fun _ => ?_
 refine run ?_; refine cnd ?_ ?_
 refine uF fun _ => ?_; try omega
 refine run ?_; refine aoR fun _ => ?_
 refine run ?_; refine aoR fun _ => ?_
 refine run ?_
 apply uP; exact rfl; exact .fn _ _ _; exact rfl; (exact rO _)
 refine run ?_
 apply spF; exact rfl
 intro hc_
 have hp_ := hc_; try simp only [nrm] at hp_
 apply vD; exact .plain rfl rfl; exact .fn _ _ _; exact vY; (exact jP _ _ _ (by omega) (by omega) (by first | exact hlA _ | exact hlD _ | exact hlC _ | assumption | omega))
 refine run ?_
 apply spF; exact rfl
 intro hc_
 have hp_ := hc_; try simp only [nrm] at hp_
 apply vD; exact .plain rfl rfl; exact .fn _ _ _; exact vY; (exact jP _ _ _ (by omega) (by omega) (by first | exact hlA _ | exact hlD _ | exact hlC _ | assumption | omega))
 refine run ?_
 apply spF; exact rfl
 intro hc_
 have hp_ := hc_; try simp only [nrm] at hp_
 apply vD; exact .plain rfl rfl; exact .fn _ _ _; exact vY; (exact jP _ _ _ (by omega) (by omega) (by first | exact hlA _ | exact hlD _ | exact hlC _ | assumption | omega))
 refine run ?_; refine cnd ?_ ?_
 refine xJ (fun hc_ => ?_); (try simp only [nrm] at hc_)
 refine run ?_; refine aoR fun _ => ?_
 refine run ?_; rotate_left
 iterate 4 refine xP ?_
 refine xR ?_
 refine wQ (fun _ => ?_)
 refine wS (fun _ => ?_); (try omega)
 refine xR ?_
 refine wQ (fun _ => ?_)
 refine xR ?_
 refine wQ (fun _ => ?_)
 refine xR ?_
 refine wQ (fun _ => ?_)
 refine run ?_; refine aoR fun _ => ?_
 refine run ?_
 refine uO (E := E) ?_ (fun _ => ?_); exact rfl
 refine run ?_; refine cnd ?_ ?_
 refine xJ (fun hc_ => ?_); (try simp only [nrm] at hc_)
 refine run ?_; refine aoR fun _ => ?_
 refine run ?_; rotate_left
 iterate 2 refine xP ?_
 refine xR ?_
 refine wQ (fun _ => ?_)
 iterate 2 (refine wK (fun hc_ => ?_); (try simp only [nrm] at hc_))
 refine run ?_; refine aoR fun _ => ?_
 refine run ?_; rotate_left
 refine uI fun _ => ?_; try omega
 refine run ?_; refine aoR fun _ => ?_
 refine run ?_; refine cnd ?_ ?_
 refine wR (fun _ => ?_); (try omega)
 refine run ?_; refine aoR fun _ => ?_
 refine run ?_; rotate_left
 refine wS (fun _ => ?_); (try omega)
 refine run ?_; refine aoR fun _ => ?_
 refine run ?_; rotate_left
 ·simp only [Int.toNat_natCast, uAM] at hc_
  refine wG rfl (mS x (by omega) k (by omega) ?_).symm
  rw [had]
  exact evOk_false1 _ _ _ (hB k (by omega)) hc_
 ·have e1 : ((k : Int) - 1).toNat = k - 1 := by omega
  simp only [Int.toNat_natCast, e1] at hc_
  refine wG rfl (mS x (by omega) k (by omega) ?_).symm
  rw [had]
  exact evOk_false2 _ _ _ (by simpa only [Int.ofNat_lt] using hc_)
 ·rename_i g1 _ _ h1 h2 h3 h4 h5 _ _ h6 h7 _
  have e1 : ((k : Int) - 1).toNat = k - 1 := by omega
  have h8 := hc_
  simp only [Int.toNat_natCast, uAM, Int.ofNat_lt, e1, decide_eq_decide] at h1 h2 h3 h4 h5 h6 h7 h8
  refine uV (k + 1) ⟨by omega, ?_⟩ (by omega) leP leP
  rw [eE, ht, Bool.true_and]
  exact evOk_true _ _ _ (hB k (by omega)) h1 h2 h3 h4 h5 (by simpa using h6) h7 h8
 ·have e1 : k = x.evs.length := by omega
  subst e1
  refine wG rfl (gW x (by omega) (by rw [had]; exact ht) ?_).symm
  unfold fromB
  have : ¬ x.from_.length = x.evs.length := by omega
  simp [this]
 have e1 : k = x.evs.length := by omega
 subst e1
 have hfl : x.from_.length = x.evs.length := by omega
 refine uT (X := Nat) (fun k => tmL [(1, .lo 1 (v1, 0) 3 0 0), (3, .int .i64 x.evs.length), (4, .os 4 (v4, 2) 1 ad.length), (5, .int .i64 ad.length), (9, .int .i64 k)]) (fun _ => stL [(1, ((v1, 0), ⟨3, [(exOV x).cells]⟩)), (4, ((v4, 2), ⟨1, ad.map (cellO .u32)⟩))])
  (fun k => k ≤ x.evs.length ∧ fromTo x.evs x.from_ k = true) (fun k => x.evs.length - k) 0 ⟨Nat.zero_le _, rfl⟩ leP leP ?_
 intro k hk2
 obtain ⟨hk2, ht2⟩ := hk2
 refine run ?_; refine aoR fun _ => ?_
 refine run ?_; refine cnd ?_ ?_
 refine uF fun _ => ?_; try omega
 refine run ?_
 refine uO (E := E) ?_ (fun _ => ?_); exact rfl
 refine run ?_; refine aoR fun _ => ?_
 refine run ?_
 apply uP; exact rfl; exact .fn _ _ _; exact rfl; (exact yP _)
 refine run ?_; refine cnd ?_ ?_; refine cJ ?_
 refine cI (fun _ => ?_)
 refine run ?_; refine aoR fun _ => ?_
 refine run ?_; refine cnd ?_ ?_
 refine wR (fun _ => ?_); (try omega)
 refine run ?_; refine aoR fun _ => ?_
 refine run ?_; rotate_left
 refine wS (fun _ => ?_); (try omega)
 refine run ?_; refine aoR fun _ => ?_
 refine run ?_; rotate_left
 refine xR ?_
 refine wQ (fun _ => ?_)
 refine run ?_
 refine uO (E := E) ?_ (fun _ => ?_); exact rfl
 refine run ?_
 apply dpF; exact rfl
 intro hc_
 have hp_ := hc_; try simp only [nrm] at hp_
 apply vD; exact .plain rfl rfl; exact .fn _ _ _; exact vY; (exact wO _)
 refine run ?_; refine cnd ?_ ?_
 refine xJ (fun hc_ => ?_); (try simp only [nrm] at hc_)
 refine run ?_; refine aoR fun _ => ?_
 refine run ?_; rotate_left
 iterate 5 refine xP ?_
 iterate 3 refine uI fun _ => ?_; try omega
 refine xR ?_
 refine wQ (fun _ => ?_)
 iterate 2 (refine wS (fun _ => ?_); (try omega))
 refine run ?_; refine aoR fun _ => ?_
 refine run ?_; rotate_left
 refine uI fun _ => ?_; try omega
 refine run ?_; refine aoR fun _ => ?_
 refine run ?_; refine cnd ?_ ?_
 refine wR (fun _ => ?_); (try omega)
 refine run ?_; refine aoR fun _ => ?_
 refine run ?_; rotate_left
 refine wS (fun _ => ?_); (try omega)
 refine run ?_; refine aoR fun _ => ?_
 refine run ?_; rotate_left
 ·rename_i h1 _ h2 _
  refine wG rfl (gW x (by omega) (by rw [had]; exact ht) ?_).symm
  simp only [Int.toNat_natCast] at h1 h2
  exact wI _ _ k (by omega) (fromOk_false1 h1 h2)
 ·rename_i h1 _ h2 _
  simp only [Int.toNat_natCast] at h1 h2
  refine uV (k + 1) ⟨by omega, ?_⟩ (by omega) leP leP
  rw [xX, ht2, Bool.true_and]
  exact fromOk_true1 h1 h2
 ·rename_i h1 _ _
  simp only [Int.toNat_natCast] at h1 hc_
  refine wG rfl (gW x (by omega) (by rw [had]; exact ht) ?_).symm
  exact wI _ _ k (by omega) (fromOk_false2 h1 hc_)
 ·rename_i h1 _ h2 h3 h4 h5 h6 h7 _
  simp only [Int.toNat_natCast] at h1 h2 h3 h4 h5 h6 h7
  refine uV (k + 1) ⟨by omega, ?_⟩ (by omega) leP leP
  rw [xX, ht2, Bool.true_and]
  exact fromOk_true2 h1 h2 h3 h4 h5 h6 h7
 ·have e1 : k = x.evs.length := by omega
  subst e1
  refine wG rfl (gV x (by omega) (by rw [had]; exact ht) ?_ ?_).symm
  ·unfold fromB; rw [hfl, ht2]; simp
  ·rw [had]
   unfold orderB
   have : ¬ x.order.length = ad.length := by omega
   simp [this]
 have e1 : k = x.evs.length := by omega
 subst e1
 have hol : x.order.length = ad.length := by omega
 have hfB : fromB x.evs x.from_ = true := by unfold fromB; rw [hfl, ht2]; simp
 refine uT (X := Nat) (fun k => tmL [(1, .lo 1 (v1, 0) 3 0 0), (3, .int .i64 x.evs.length), (4, .os 4 (v4, 2) 1 ad.length), (5, .int .i64 ad.length), (12, .int .i64 k)]) (fun _ => stL [(1, ((v1, 0), ⟨3, [(exOV x).cells]⟩)), (4, ((v4, 2), ⟨1, ad.map (cellO .u32)⟩))])
  (fun k => k ≤ ad.length ∧ rowsTo x.evs ad x.order k = true) (fun k => ad.length - k) 0 ⟨Nat.zero_le _, rfl⟩ leP leP ?_
 intro a hk3
 obtain ⟨hk3, ht3⟩ := hk3
 refine run ?_; refine aoR fun _ => ?_
 refine run ?_; refine cnd ?_ ?_
 refine uF fun _ => ?_; try omega
 refine run ?_; refine aoR fun _ => ?_
 refine run ?_; refine aoR fun _ => ?_
 refine run ?_; refine aoR fun _ => ?_
 refine run ?_; rotate_left
 refine uI fun _ => ?_; try omega
 refine run ?_; refine aoR fun _ => ?_
 refine run ?_; rotate_left
 ·rename_i w1 g1 w2 w3
  refine uT (X := Nat) (fun i => tmL [(1, .lo 1 (v1, 0) 3 0 0), (3, .int .i64 x.evs.length), (4, .os 4 (v4, 2) 1 ad.length), (5, .int .i64 ad.length), (12, .int .i64 a), (13, .d (ints (x.order.getD a default).2)), (14, .int .i64 (wantTo x.evs (ad.getD a 0) i).length), (15, .int .i64 i)]) (fun _ => stL [(1, ((v1, 0), ⟨3, [(exOV x).cells]⟩)), (4, ((v4, 2), ⟨1, ad.map (cellO .u32)⟩))])
   (fun i => i ≤ x.evs.length ∧ ∀ m ∈ wantTo x.evs (ad.getD a 0) i, m ∈ (x.order.getD a default).2) (fun i => x.evs.length - i) 0 ⟨Nat.zero_le _, by simp [wantTo]⟩ leP leP ?_
  intro i hk4
  obtain ⟨hk4, ht4⟩ := hk4
  have hwl : (wantTo x.evs (ad.getD a 0) i).length ≤ i := by
   unfold wantTo; rw [List.length_map]; exact Nat.le_trans (List.length_filter_le _ _) (by simp)
  have hwp : ¬ i < x.evs.length → 0 < (wantTo x.evs (ad.getD a 0) i).length := fun h => by
   have e : i = x.evs.length := by omega
   rw [e]
   exact List.length_pos_of_mem (evs_stores ht hadl (by omega))
  refine run ?_; refine aoR fun _ => ?_
  refine run ?_; refine cnd ?_ ?_
  refine uF fun _ => ?_; try omega
  refine run ?_
  refine uO (E := E) ?_ (fun _ => ?_); exact rfl
  refine run ?_
  apply xD; exact rfl; exact .fn _ _ _; exact rfl; (exact wO _)
  refine run ?_; refine cnd ?_ ?_; refine wX ?_
  refine wQ (fun _ => ?_)
  refine uF fun _ => ?_; try omega
  refine run ?_; refine aoR fun _ => ?_
  refine run ?_; refine aoR fun _ => ?_
  refine run ?_
  apply uP; exact rfl; exact .fn _ _ _; exact rfl; (exact lH _ _ (by first | exact hlO _ | assumption | omega))
  refine run ?_; refine cnd ?_ ?_
  refine uF fun _ => ?_; try omega
  refine run ?_; refine aoR fun _ => ?_
  refine run ?_; rotate_left
  refine uI fun _ => ?_; try omega
  refine run ?_; refine aoR fun _ => ?_
  refine run ?_; rotate_left
  refine wK (fun hc_ => ?_); (try simp only [nrm] at hc_)
  refine run ?_; refine aoR fun _ => ?_
  refine run ?_; rotate_left
  refine uI fun _ => ?_; try omega
  refine run ?_; refine aoR fun _ => ?_
  refine run ?_; refine cnd ?_ ?_
  refine xJ (fun hc_ => ?_); (try simp only [nrm] at hc_)
  refine run ?_; refine aoR fun _ => ?_
  refine run ?_; rotate_left
  refine xP ?_
  iterate 2 (refine wS (fun _ => ?_); (try omega))
  refine run ?_; refine aoR fun _ => ?_
  refine run ?_; rotate_left
  ·rename_i h1 h2 _ _ h3 _
   simp only [Int.toNat_natCast] at h1 h2
   refine wG rfl (gV x (by omega) (by rw [had]; exact ht) hfB ?_).symm
   rw [had]
   exact iR (k := a) (by omega) (rowOk_false2 (m := i) (pG.2 ⟨i, by omega, rfl, h1, h2⟩) ((sI _ _).1 h3))
  ·rename_i h1 h2 _ _ h3 _
   simp only [Int.toNat_natCast] at h1 h2
   have hs := lI x.evs (ad.getD a 0) i
   rw [if_pos ⟨h1, h2⟩] at hs
   refine uV (i + 1) ⟨by omega, ?_⟩ (by omega) (by repeat' (first | exact vW _ | exact vP _ | refine uL rfl ?_ | refine vH rfl ?_ | (refine vF rfl ?_ ?_; (rw [hs]; simp)) | (refine uR rfl ?_ ?_; (rw [hs]; simp)) | (refine uS rfl ?_ ?_; (rw [hs]; simp)))) leP
   intro m hm
   rw [hs] at hm
   rcases List.mem_append.1 hm with hm | hm
   ·exact ht4 m hm
   ·rw [List.mem_singleton] at hm
    subst hm
    exact Decidable.not_not.1 (fun e => h3 ((sI _ _).2 e))
  ·simp only [Int.toNat_natCast] at hc_
   have hs := lI x.evs (ad.getD a 0) i
   rw [if_neg (fun e => by rcases hc_ with h | h; rw [e.1] at h; cases h; exact h e.2), List.append_nil] at hs
   refine uV (i + 1) ⟨by omega, ?_⟩ (by omega) (by repeat' (first | exact vW _ | exact vP _ | refine uL rfl ?_ | refine vH rfl ?_ | (refine vF rfl ?_ ?_; (rw [hs])) | (refine uR rfl ?_ ?_; (rw [hs])) | (refine uS rfl ?_ ?_; (rw [hs])))) leP
   rw [hs]; exact ht4
  ·have e : i = x.evs.length := by omega
   subst e
   refine wG rfl (gV x (by omega) (by rw [had]; exact ht) hfB ?_).symm
   rw [had]
   refine iR (k := a) (by omega) (rowOk_false1 ?_)
   rcases hc_ with h | h
   ·exact Or.inl (by omega)
   ·exact Or.inr h
  ·rename_i h1 h2 _
   have e : i = x.evs.length := by omega
   subst e
   refine uV (a + 1) ⟨by omega, ?_⟩ (by omega) leP leP
   rw [rowsTo_succ', ht3, Bool.true_and]
   exact rowOk_true ht4 (hwp (by omega)) (by omega) h2
 ·have e : a = ad.length := by omega
  subst e
  refine wG rfl (check_0 x (by omega) (by rw [had]; exact ht) hfB ?_).symm
  rw [had]
  unfold orderB
  rw [hol, ht3]; simp
end Go.Proofs.YtnkocjkkefnelaaGreat
