/- Parts. -/
import Derived.Test.YtnkocjkkefnelaaGreatPg4
import Derived.Test.YtnkocjkkefnelaaGreatPg5
import Derived.Test.YtnkocjkkefnelaaGreatPg6
import Derived.Test.YtnkocjkkefnelaaGreatPg21
import Derived.Test.YtnkocjkkefnelaaGreatPg31
import Derived.Test.YtnkocjkkefnelaaGreatPg34
import Derived.Test.YtnkocjkkefnelaaGreatPg35
import Derived.Test.YtnkocjkkefnelaaGreatPg36
import Derived.Test.YtnkocjkkefnelaaGreatPg37
set_option linter.unusedVariables false
set_option linter.unusedSimpArgs false
set_option maxHeartbeats 4000000
set_option maxRecDepth 100000
namespace Go.Proofs.YtnkocjkkefnelaaGreat
open Go.RowKit Go.Maps
section
variable {N : Nat} {fe : Nat → Bool} {L : List (Int × Int)} {o : List Int}
def gkey (fe : Nat → Bool) (i m : Nat) : Bool := decide (m < i) && !fe m
theorem gkey_zero : gkey fe 0 = fun _ => false := funext fun m => by simp [gkey]
theorem gkey_all : gkey fe N = gleft N fe [] := funext fun m => by simp [gkey, gleft]
theorem gkey_no {i : Nat} (h : fe i = true) : gkey fe (i + 1) = gkey fe i := funext fun m => by
 unfold gkey
 by_cases e : m = i
 ·subst e; simp [h]
 ·rw [show decide (m < i + 1) = decide (m < i) from decide_eq_decide.2 (by omega)]
theorem gkey_yes {i : Nat} (h : fe i = false) (m : Nat) : gkey fe (i + 1) m = (gkey fe i m || decide (m = i)) := by
 unfold gkey
 by_cases e : m = i
 ·subst e; simp [h]
 ·rw [show decide (m < i + 1) = decide (m < i) from decide_eq_decide.2 (by omega), decide_eq_false e, Bool.or_false]
theorem gfirst_zero : gfirst L 0 = fun _ => 0 := funext fun m => by simp [gfirst]
theorem gfirst_end : gfirst L L.length = gcnt L [] := funext fun m => gfirst_all m
theorem gturn_start (n : Nat) : gturn L o n 0 = gcnt L o := funext fun m => gturn_zero n m
theorem gturn_end (n : Nat) : gturn L o n L.length = gcnt L (o ++ [(n : Int)]) := funext fun m => gturn_all n m
theorem gturn_same {n k : Nat} (hk : k < L.length) (hA : ¬ (L.getD k default).1 = (n : Int)) : gturn L o n (k + 1) = gturn L o n k := funext fun m => gturn_no hk hA m
theorem gleft_step (n : Nat) : (fun m => gleft N fe o m && !decide (m = n)) = gleft N fe (o ++ [(n : Int)]) := funext fun m => by
 unfold gleft
 rw [xE, show decide ((m : Int) = (n : Int)) = decide (m = n) from decide_eq_decide.2 (by omega)]
 cases decide (m < N) <;> cases fe m <;> cases o.contains (m : Int) <;> simp
theorem jL {f g : Nat → Bool} : ∀ {l : List Nat}, (∀ n ∈ l, f n = g n) → l.find? f = l.find? g
 | [], _ => rfl
 | a :: l, h => by
  rw [List.find?_cons, List.find?_cons, h a (by simp), jL fun n hn => h n (by simp [hn])]
theorem gnext_left : gnext N fe L o = ((List.range N).filter (gleft N fe o)).find? fun n => decide (gcnt L o n = 0) := by
 unfold gnext
 rw [List.find?_filter]
 exact jL fun n hn => by rw [gfree_left (by simpa using hn)]; simp
theorem first_set {k c : Nat} (hk : k < L.length) (hB : (L.getD k default).2 = (c : Int)) (m : Nat) : gfirst L (k + 1) m = if m = c then gfirst L k c + 1 else gfirst L k m := by
 obtain ⟨q1, q2⟩ := gO (L := L) hk hB
 by_cases e : m = c
 ·subst e; rw [if_pos rfl, q1]
 ·rw [if_neg e, q2 m e]
theorem turn_set {n k c w : Nat} (hk : k < L.length) (ho : o.contains (n : Int) = false) (hA : (L.getD k default).1 = (n : Int)) (hB : (L.getD k default).2 = (c : Int)) (hw : w + 1 = gturn L o n k c) (m : Nat) : gturn L o n (k + 1) m = if m = c then w else gturn L o n k m := by
 obtain ⟨q1, q2⟩ := lM hk ho hA hB
 by_cases e : m = c
 ·subst e; rw [if_pos rfl]; omega
 ·rw [if_neg e, q2 m e]
theorem find_drop {R : List Nat} {p : Nat → Bool} {i : Nat} (h : i < R.length) : (R.drop i).find? p = if p (R.getD i 0) then some (R.getD i 0) else (R.drop (i + 1)).find? p := by
 rw [List.drop_eq_getElem_cons h, List.find?_cons, List.getD_eq_getElem?_getD, List.getElem?_eq_getElem h]
 cases hp : p R[i] <;> simp [hp]
end
theorem get_casts {R : List Nat} {i : Nat} (h : i < R.length) : (R.map fun a : Nat => (a : Int)).getD i 0 = ((R.getD i 0 : Nat) : Int) := by
 rw [List.getD_eq_getElem?_getD, List.getElem?_map, List.getD_eq_getElem?_getD, List.getElem?_eq_getElem h]; rfl
theorem arrow_left {N : Nat} {fe : Nat → Bool} {L : List (Int × Int)} {o : List Int} (hT : GTaken N fe L o) {n j : Nat} (hj : j < L.length) (hn : gfree fe L o n = true) {a b : Nat} (e : L.getD j default = ((a : Int), (b : Int))) (hb : b < N) (hfb : fe b = false) (ha : a = n) :
  gleft N fe o b = true ∧ b ≠ n := by
 subst ha
 have hm : L.getD j default ∈ L := by
  rw [List.getD_eq_getElem?_getD, List.getElem?_eq_getElem hj]; exact List.getElem_mem _
 rw [e] at hm
 obtain ⟨h1, h2, h3⟩ := zX.1 hn
 have hbo : o.contains (b : Int) = false := by
  cases h : o.contains (b : Int) with
  | false => rfl
  | true => have := hT.closed _ hm h; dsimp only at this; rw [h2] at this; cases this
 refine ⟨by unfold gleft; rw [decide_eq_true hb, hfb, hbo]; rfl, fun e => ?_⟩
 subst e
 have := h3 _ hm
 unfold gback at this
 dsimp only at this
 rw [h2] at this
 simp at this
set_option maxHeartbeats 8000000 in
theorem Global_p (x : Ex) (hx : x.fit) : Pure E.P 25 [exOV x] (.tu [.d (ints (gloT x).1), .bool (gloT x).2]) := by
 have hA := Arrows_p x hx
 have f1 : Frozen 1 := ⟨trivial⟩
 have f2 : Frozen 2 := ⟨trivial⟩
 have f8 : Frozen 8 := ⟨trivial⟩
 have f10 : Frozen 10 := ⟨trivial⟩
 have f15 : Frozen 15 := ⟨trivial⟩
 refine FnW.toR ?_
 refine wD (vs := [.tmp 2, .tmp 3]) Tryz.func25 (by decide) rfl Tryz.ntmps25 (Nat.le_of_ble_eq_true rfl) rfl ?_
 by_cases hc : checkI x = 0
 rotate_left
 ·have hT : arrT x = ([], checkI x) := by unfold arrT; rw [if_neg hc]
  rw [hT] at hA
  have hG : gloT x = ([], false) := by unfold gloT; rw [if_neg hc]
  rw [hG]
  refine run ?_; refine aoR fun _ => ?_
  refine run ?_; refine aoR fun _ => ?_
  refine run ?_
  apply uM; exact rfl; exact .fn _ _ _; exact rfl; exact hA
  refine run ?_; refine aoR fun _ => ?_
  refine run ?_; refine cnd ?_ ?_
  refine wB (fun _ => ?_); (try (exfalso; omega))
  refine run ?_; refine aoR fun _ => ?_
  refine run ?_; rotate_left
  refine vV (fun _ => ?_); (try (exfalso; omega))
  exact xQ rfl rfl rfl
 have hr : x.rel := ⟨hx, hc⟩
 have hT : arrT x = (gloL x, 0) := by unfold arrT; rw [if_pos hc]
 rw [hT] at hA
 have hG : gloT x = grun x.evs.length (feB x) (gloL x) (gmany (feB x) x.evs.length) [] := by unfold gloT; rw [if_pos hc]
 rw [hG]
 clear hG hT
 have hN := hr.len
 have hLn := jJ hr
 have hend : ∀ p ∈ gloL x, ∃ a b : Nat, p = ((a : Int), (b : Int)) ∧ a < x.evs.length ∧ b < x.evs.length ∧ feB x b = false := glo_ends hr
 generalize gloL x = L at hA hLn hend ⊢
 have hget : ∀ j, j < L.length → ∃ a b : Nat, L.getD j default = ((a : Int), (b : Int)) ∧ a < x.evs.length ∧ b < x.evs.length ∧ feB x b = false := fun j hj => hend _ (by
  rw [List.getD_eq_getElem?_getD, List.getElem?_eq_getElem hj]; exact List.getElem_mem _)
 obtain ⟨M, hMe⟩ : ∃ M, M = gmany (feB x) x.evs.length := ⟨_, rfl⟩
 have hM := eH (fe := feB x) x.evs.length
 rw [← hMe] at hM ⊢
 refine run ?_; refine aoR fun _ => ?_
 refine run ?_; refine aoR fun _ => ?_
 refine run ?_
 apply uM; exact rfl; exact .fn _ _ _; exact rfl; exact hA
 refine run ?_; refine aoR fun _ => ?_
 refine run ?_; refine cnd ?_ ?_
 refine wB (fun _ => ?_); (try (exfalso; omega))
 refine vV (fun _ => ?_); (try (exfalso; omega))
 refine run ?_; refine aoR fun _ => ?_
 apply S_makeZ; intro g b
 refine run ?_; refine aoR fun _ => ?_
 refine run ?_; rotate_left
 refine uS (X := Nat) (fun i => tmL [(1, .d (.pt (exRow x) 0)), (4, .d (pairsTV L)), (6, .d (.c (.map (some b)))), (25, .d (evsTV x.evs)), (26, .int .i64 x.evs.length), (27, .int .i64 i), (GS, .gh 0 (YZ (gkey (feB x) i) (fun _ => 0) (gmany (feB x) i) (gmany (feB x) i) g b))]) (fun _ => stL []) (fun i => i ≤ x.evs.length) (fun i => x.evs.length - i) 0 (Nat.zero_le _)
  (uD rfl (uD rfl (uD rfl (uD rfl (uD rfl (uD rfl (uD (by rw [gkey_zero]; rfl) (vH _)))))))) leP ?_
 intro i hi
 have hgs := jI (fe := feB x) i
 have hgl := eH (fe := feB x) i
 by_cases hlt : i < x.evs.length
 ·refine run ?_
  refine aoR fun _ => ?_; refine run ?_
  refine cnd ?_ ?_
  refine uH fun _ => ?_; try (exfalso; omega)
  refine run ?_; refine aoR fun _ => ?_
  refine run ?_; refine aoR fun _ => ?_
  refine run ?_; refine cnd ?_ ?_
  refine wB (fun _ => ?_); (try (exfalso; omega))
  refine aoR fun _ => ?_; refine run ?_
  ((apply qB (a := i) (w := 0) (gkey (feB x) (i + 1)) (fun _ => 0) (gmany (feB x) (i + 1))); exact rfl; exact rfl; exact rfl; omega; exact rfl; decide; omega; (intro D hD; rw [hgs, show feB x i = false from decide_eq_false (by assumption), if_neg (by decide)]; exact (hD.add (by simp [gkey]) 0).congr (gkey_yes (decide_eq_false (by assumption))) (fun m _ => by simp) rfl))
  refine run ?_; refine aoR fun _ => ?_
  refine run ?_; rotate_left
  refine vV (fun _ => ?_); (try (exfalso; omega))
  refine run ?_; refine aoR fun _ => ?_
  refine run ?_; rotate_left
  refine uI fun _ => ?_; try (exfalso; omega)
  ·rename_i hf _ _
   have hf' : feB x i = false := decide_eq_false hf
   rw [hf', if_neg (by decide)] at hgs
   exact uY (i + 1) (by omega) (by omega) (uD rfl (uD rfl (uD rfl (uD rfl (uD rfl (uD rfl (uD (by rw [hgs]; rfl) (vH _)))))))) leP
  ·rename_i hf _
   have hf' : feB x i = true := decide_eq_true hf
   rw [hf', if_pos rfl, Nat.add_zero] at hgs
   exact uY (i + 1) (by omega) (by omega) (uD rfl (uD rfl (uD rfl (uD rfl (uD rfl (uD rfl (uD (by rw [gkey_no hf', hgs]; rfl) (vH _)))))))) leP
 have hi' : i = x.evs.length := by omega
 subst hi'
 rw [← hMe]
 refine run ?_; refine aoR fun _ => ?_
 refine run ?_; refine cnd ?_ ?_
 refine uH fun _ => ?_; try (exfalso; omega)
 refine uI fun _ => ?_; try (exfalso; omega)
 refine run ?_; refine aoR fun _ => ?_
 refine run ?_; rotate_left
 refine uS (X := Nat) (fun k => tmL [(1, .d (.pt (exRow x) 0)), (4, .d (pairsTV L)), (6, .d (.c (.map (some b)))), (38, .d (pairsTV L)), (39, .int .i64 L.length), (40, .int .i64 k), (GS, .gh 0 (YZ (gkey (feB x) x.evs.length) (gfirst L k) M (M + k) g b))]) (fun _ => stL []) (fun k => k ≤ L.length) (fun k => L.length - k) 0 (Nat.zero_le _)
  (uD rfl (uD rfl (uD rfl (uD rfl (uD rfl (uD rfl (uD (by rw [gfirst_zero]; rfl) (vH _)))))))) leP ?_
 intro k hk
 by_cases hlt2 : k < L.length
 ·obtain ⟨a, c, e, ha, hcn, hfc⟩ := hget k hlt2
  have e2 : (L.getD (k : Int).toNat default).2 = (c : Int) := by rw [Int.toNat_natCast, e]
  obtain ⟨q1, q2⟩ := gO (L := L) hlt2 (b := c) (by rw [e])
  have q3 := gfirst_le (L := L) k c
  have hkc : gkey (feB x) x.evs.length c = true := by unfold gkey; rw [decide_eq_true hcn, hfc]; rfl
  refine run ?_; refine aoR fun _ => ?_
  refine run ?_; refine cnd ?_ ?_
  refine uH fun _ => ?_; try (exfalso; omega)
  refine run ?_; refine aoR fun _ => ?_
  refine run ?_; refine aoR fun _ => ?_
  refine run ?_
  apply iI (a := c); exact rfl; exact rfl; exact congrArg (fun z : Int => some (OV.int .i64 z)) e2; omega; exact hkc
  refine run ?_
  ((apply qB (a := c) (w := gfirst L k c + 1) (gkey (feB x) x.evs.length) (gfirst L (k + 1)) M); exact rfl; exact rfl; exact congrArg (fun z : Int => some (OV.int .i64 z)) e2; omega; exact rfl; omega; omega; (intro D hD; exact (hD.set hkc _).congr (fun _ => rfl) (fun m _ => first_set hlt2 (by rw [e]) m) rfl))
  refine run ?_; refine aoR fun _ => ?_
  refine run ?_; rotate_left
  refine uI fun _ => ?_; try (exfalso; omega)
  exact uY (k + 1) (by omega) (by omega) leP leP
 have hk' : k = L.length := by omega
 subst hk'
 refine run ?_; refine aoR fun _ => ?_
 refine run ?_; refine cnd ?_ ?_
 refine uH fun _ => ?_; try (exfalso; omega)
 refine uI fun _ => ?_; try (exfalso; omega)
 refine run ?_; refine aoR fun _ => ?_
 refine run ?_; rotate_left
 rename_i v11
 refine uS (X := Nat × Nat × Stamp × List Int) (fun p => tmL [(4, .d (pairsTV L)), (6, .d (.c (.map (some b)))), (11, .os 11 p.2.2.1 1 p.2.2.2.length), (GS, .gh 0 (YZ (gleft x.evs.length (feB x) p.2.2.2) (gcnt L p.2.2.2) p.1 p.2.1 g b))]) (fun p => stL [(11, (p.2.2.1, ⟨1, p.2.2.2.map (cellO .i64)⟩))])
  (fun p => GTaken x.evs.length (feB x) L p.2.2.2 ∧ p.2.2.2.length + p.1 = M ∧ grun x.evs.length (feB x) L p.1 p.2.2.2 = grun x.evs.length (feB x) L M [] ∧ p.2.1 ≤ 8192 + p.2.2.2.length * 4096) (fun p => p.1) (M, M + L.length, (v11, 0), []) ⟨.nil, by simp, rfl, by dsimp only; simp; omega⟩
  (uD rfl (uD rfl (uD rfl (uD (by rw [gkey_all, gfirst_end]; rfl) (vH _))))) leP ?_
 rintro ⟨k, q, τ, o⟩ ⟨hT, hk2, hr2, hq⟩
 dsimp only at hT hk2 hr2 hq ⊢
 have hol : o.length ≤ 64 := by omega
 cases k with
 | zero =>
  have f11 : Frozen 11 := ⟨trivial⟩
  refine run ?_; refine aoR fun _ => ?_
  refine run ?_
  apply sX; exact rfl; exact rfl
  refine run ?_; refine cnd ?_ ?_
  refine uH fun _ => ?_; try (exfalso; omega)
  refine uI fun _ => ?_; try (exfalso; omega)
  refine run ?_; refine aoR fun _ => ?_
  refine run ?_; rotate_left
  refine xQ rfl rfl ?_
  rw [← hr2]; rfl
 | succ k =>
  have hS := sortedKeysI_m x.evs.length (by omega) (gleft x.evs.length (feB x) o) (gcnt L o) (k + 1) q (fun a ha => by unfold gleft at ha; simp at ha; exact ha.1.1) (by omega) g b
  have hnx := gnext_left (N := x.evs.length) (fe := feB x) (L := L) (o := o)
  have hRm : ∀ n ∈ (List.range x.evs.length).filter (gleft x.evs.length (feB x) o), gleft x.evs.length (feB x) o n = true := fun n hn => (List.mem_filter.1 hn).2
  have hRl : ((List.range x.evs.length).filter (gleft x.evs.length (feB x) o)).length ≤ x.evs.length := Nat.le_trans (List.length_filter_le _ _) (by simp)
  generalize (List.range x.evs.length).filter (gleft x.evs.length (feB x) o) = R at hS hnx hRm hRl
  refine run ?_; refine aoR fun _ => ?_
  refine run ?_
  apply sX; exact rfl; exact rfl
  refine run ?_; refine cnd ?_ ?_
  refine uH fun _ => ?_; try (exfalso; omega)
  refine run ?_; refine aoR fun _ => ?_
  refine run ?_
  apply uM; exact rfl; exact .fn _ _ _; exact rfl; exact keysI_p _ rfl
  apply rO; exact rfl; exact .fn _ _ _; exact rfl; exact rfl; exact hS
  refine run ?_; rotate_left
  refine uI fun _ => ?_; try (exfalso; omega)
  refine uS (X := Nat) (fun i => tmL [(4, .d (pairsTV L)), (6, .d (.c (.map (some b)))), (11, .os 11 τ 1 o.length), (55, .d (ints (R.map fun a : Nat => (a : Int)))), (56, .int .i64 R.length), (57, .int .i64 i), (GS, .gh 0 (YZ (gleft x.evs.length (feB x) o) (gcnt L o) (k + 1) q g b))]) (fun _ => stL [(11, (τ, ⟨1, o.map (cellO .i64)⟩))])
   (fun i => i ≤ R.length ∧ gnext x.evs.length (feB x) L o = (R.drop i).find? fun n => decide (gcnt L o n = 0)) (fun i => R.length - i) 0 ⟨Nat.zero_le _, hnx⟩ (by repeat' (first | exact vH _ | exact vJ _ | refine uD rfl ?_ | refine uZ rfl ?_ | (refine uR rfl ?_ ?_; (simp)) | (refine uO rfl ?_ ?_; (simp)) | (refine uV rfl ?_ ?_; (simp)))) leP ?_
  rintro i ⟨hi, hnx2⟩
  by_cases hlt3 : i < R.length
  ·have hz := get_casts hlt3
   rw [find_drop hlt3] at hnx2
   obtain ⟨n, hn⟩ : ∃ n, n = R.getD i 0 := ⟨_, rfl⟩
   have hnR : n ∈ R := by rw [hn, List.getD_eq_getElem?_getD, List.getElem?_eq_getElem hlt3]; exact List.getElem_mem _
   have hnl := hRm n hnR
   rw [← hn] at hz hnx2
   have hnN : n < x.evs.length := by unfold gleft at hnl; simp at hnl; exact hnl.1.1
   have hlen : (R.map fun a : Nat => (a : Int)).length = R.length := List.length_map _
   have hzz : ((R.map fun a : Nat => (a : Int)).getD (i : Int).toNat 0) = (n : Int) := hz
   have hcl := gcnt_le (L := L) (o := o) n
   by_cases hcz : gcnt L o n = 0
   ·rw [if_pos (by simpa using hcz)] at hnx2
    have hfr := (jH hnx2).2
    refine run ?_; refine aoR fun _ => ?_
    refine run ?_; refine cnd ?_ ?_
    refine uH fun _ => ?_; try (exfalso; omega)
    refine run ?_; refine aoR fun _ => ?_
    refine run ?_; refine aoR fun _ => ?_
    refine run ?_
    apply iI (a := n); exact rfl; exact rfl; exact congrArg (fun z : Int => some (OV.int .i64 z)) hzz; omega; exact hnl
    refine run ?_; refine cnd ?_ ?_
    refine uH fun _ => ?_; try (exfalso; omega)
    refine uI fun _ => ?_; try (exfalso; omega)
    refine run ?_; refine aoR fun _ => ?_
    refine run ?_; refine aoR fun _ => ?_
    refine run ?_
    apply S_delZ (a := n); exact rfl; exact rfl; exact congrArg (fun z : Int => some (OV.int .i64 z)) hzz; omega; exact hnl
    refine run ?_; refine aoR fun _ => ?_
    refine run ?_; rotate_left
    refine uI fun _ => ?_; try (exfalso; omega)
    rename_i vA _ _
    have hno : o.contains (n : Int) = false := (zX.1 hfr).2.1
    refine uS (X := Nat × Nat) (fun p => tmL [(4, .d (pairsTV L)), (6, .d (.c (.map (some b)))), (11, .os 11 (vA, 4) 1 (o ++ [(n : Int)]).length), (13, .int .i64 n), (71, .d (pairsTV L)), (72, .int .i64 L.length), (73, .int .i64 p.1), (GS, .gh 0 (YZ (fun m => gleft x.evs.length (feB x) o m && !decide (m = n)) (gturn L o n p.1) k p.2 g b))]) (fun _ => stL [(11, ((vA, 4), ⟨1, (o ++ [(n : Int)]).map (cellO .i64)⟩))])
     (fun p => p.1 ≤ L.length ∧ p.2 ≤ q + p.1) (fun p => L.length - p.1) (0, q) ⟨Nat.zero_le _, Nat.le_refl _⟩
     (uD rfl (uD rfl (uR rfl (by simp <;> rfl) (uD (congrArg (fun z : Int => some (OV.int .i64 z)) hzz) (uD rfl (uD rfl (uD rfl (uD (by dsimp only; rw [gturn_start]; rfl) (vH _)))))))))
     (uV rfl (by rw [List.map_append, ← hzz]; rfl) (vJ _)) ?_
    rintro ⟨j, q'⟩ ⟨hj, hq'⟩
    dsimp only at hj hq' ⊢
    by_cases hlt4 : j < L.length
    ·obtain ⟨a, c, e, ha, hcn, hfc⟩ := hget j hlt4
     have e2 : (L.getD (j : Int).toNat default).2 = (c : Int) := by rw [Int.toNat_natCast, e]
     have hgl := gturn_le (L := L) (o := o) n (j + 1) c
     have hAL : (L.getD (j : Int).toNat default).1 = (n : Int) → (gleft x.evs.length (feB x) o c && !decide (c = n)) = true ∧ ((gturn L o n j c : Nat) : Int) - 1 = ((gturn L o n (j + 1) c : Nat) : Int) ∧ ∀ m, gturn L o n (j + 1) m = if m = c then gturn L o n (j + 1) c else gturn L o n j m := fun h => by
      rw [Int.toNat_natCast] at h
      have h' := h
      rw [e] at h'
      obtain ⟨q1, q2⟩ := arrow_left hT hlt4 hfr e hcn hfc (by dsimp only at h'; omega)
      obtain ⟨g1, _⟩ := lM (o := o) hlt4 hno h (b := c) (by rw [e])
      exact ⟨by rw [q1, decide_eq_false q2]; rfl, by omega, fun m => turn_set hlt4 hno h (by rw [e]) g1 m⟩
     refine run ?_; refine aoR fun _ => ?_
     refine run ?_; refine cnd ?_ ?_
     refine uH fun _ => ?_; try (exfalso; omega)
     refine run ?_; refine aoR fun _ => ?_
     refine run ?_; refine aoR fun _ => ?_
     refine run ?_; refine cnd ?_ ?_
     refine uH fun _ => ?_; try (exfalso; omega)
     refine aoR fun _ => ?_; refine run ?_
     apply iI (a := c); exact rfl; exact rfl; exact congrArg (fun z : Int => some (OV.int .i64 z)) e2; omega; exact (hAL (by assumption)).1
     refine run ?_
     ((apply qB (a := c) (w := gturn L o n (j + 1) c) (fun m => gleft x.evs.length (feB x) o m && !decide (m = n)) (gturn L o n (j + 1)) k); exact rfl; exact rfl; exact congrArg (fun z : Int => some (OV.int .i64 z)) e2; omega; exact congrArg (fun z : Int => some (OV.int .i64 z)) (hAL (by assumption)).2.1; omega; omega; (intro D hD; exact (hD.set (hAL (by assumption)).1 _).congr (fun _ => rfl) (fun m _ => (hAL (by assumption)).2.2 m) rfl))
     refine run ?_; refine aoR fun _ => ?_
     refine run ?_; rotate_left
     refine uI fun _ => ?_; try (exfalso; omega)
     refine run ?_; refine aoR fun _ => ?_
     refine run ?_; rotate_left
     refine uI fun _ => ?_; try (exfalso; omega)
     ·exact uY (j + 1, q' + 1) ⟨by dsimp only; omega, by dsimp only; omega⟩ (by dsimp only; omega) leP leP
     ·rename_i hA _
      have hA' : ¬ (L.getD j default).1 = (n : Int) := hA
      exact uY (j + 1, q') ⟨by dsimp only; omega, by dsimp only; omega⟩ (by dsimp only; omega) (uD rfl (uD rfl (uD rfl (uD rfl (uD rfl (uD rfl (uD rfl (uD (by dsimp only; rw [gturn_same hlt4 hA']; rfl) (vH _))))))))) leP
    ·have hj' : j = L.length := by omega
     subst hj'
     refine run ?_; refine aoR fun _ => ?_
     refine run ?_; refine cnd ?_ ?_
     refine uH fun _ => ?_; try (exfalso; omega)
     refine uI fun _ => ?_; try (exfalso; omega)
     refine run ?_; rotate_left
     refine uY (k, q', (vA, 4), o ++ [(n : Int)]) ⟨hT.step hnN hfr, by dsimp only; rw [List.length_append]; simp; omega, by dsimp only; rw [← hr2, grun, hnx2], by dsimp only; rw [List.length_append]; simp; omega⟩ (by dsimp only; omega)
      (uD rfl (uD rfl (uD rfl (uD (by dsimp only; rw [← gleft_step, ← gturn_end]; rfl) (vH _))))) leP
   ·rw [if_neg (by simpa using hcz)] at hnx2
    refine run ?_; refine aoR fun _ => ?_
    refine run ?_; refine cnd ?_ ?_
    refine uH fun _ => ?_; try (exfalso; omega)
    refine run ?_; refine aoR fun _ => ?_
    refine run ?_; refine aoR fun _ => ?_
    refine run ?_
    apply iI (a := n); exact rfl; exact rfl; exact congrArg (fun z : Int => some (OV.int .i64 z)) hzz; omega; exact hnl
    refine run ?_; refine cnd ?_ ?_
    refine uH fun _ => ?_; try (exfalso; omega)
    refine run ?_; refine aoR fun _ => ?_
    refine run ?_; rotate_left
    iterate 2 refine uI fun _ => ?_; try (exfalso; omega)
    exact uY (i + 1) ⟨by omega, hnx2⟩ (by omega) leP leP
  ·rw [List.drop_eq_nil_of_le (by omega)] at hnx2
   refine run ?_; refine aoR fun _ => ?_
   refine run ?_; refine cnd ?_ ?_
   refine uH fun _ => ?_; try (exfalso; omega)
   refine uI fun _ => ?_; try (exfalso; omega)
   refine run ?_; refine aoR fun _ => ?_
   refine run ?_; rotate_left
   refine xQ rfl rfl ?_
   rw [← hr2]; unfold grun; rw [hnx2]; rfl
set_option maxRecDepth 100000
set_option maxHeartbeats 1000000 in
theorem at_w (l : List Int) (n : Int) (τ : Stamp) (hl : l.length ≤ 1152921504606846976) : FnW E.P 33 [.os 5 τ 1 l.length, .int .i64 n] (stL [(5, (τ, ⟨1, l.map (cellO .i64)⟩))]) (IsW (.int .i64 (atI l n)) (stL [(5, (τ, ⟨1, l.map (cellO .i64)⟩))])) := by
 refine fnw_of_awp Tryz.func33 (by decide) rfl Tryz.ntmps33 (Nat.le_of_ble_eq_true rfl) rfl ?_
 refine run ?_; refine aoR fun _ => ?_
 refine run ?_; refine aoR fun _ => ?_
 refine run ?_; rotate_left
 refine uS (X := Nat) (fun k => tmL [(0, .os 5 τ 1 l.length), (1, .int .i64 n), (5, .int .i64 k)]) (fun _ => stL [(5, (τ, ⟨1, l.map (cellO .i64)⟩))]) (fun k => k ≤ l.length ∧ atI l n = atFrom n (l.drop k) k) (fun k => l.length - k) 0 ⟨Nat.zero_le _, rfl⟩ leP leP ?_
 intro k hk
 obtain ⟨hk, ht⟩ := hk
 by_cases hlt : k < l.length
 ·have hrow : (l.map (cellO .i64))[k]? = some [OV.int .i64 (l.getD k 0)] := by
   rw [List.getElem?_map, List.getD_eq_getElem?_getD, List.getElem?_eq_getElem hlt]; rfl
  refine run ?_; refine aoR fun _ => ?_
  refine run ?_; refine cnd ?_ ?_
  refine uH fun _ => ?_; try (exfalso; omega)
  refine run ?_; refine aoR fun _ => ?_
  refine run ?_; refine cnd ?_ ?_
  refine uH fun _ => ?_; try (exfalso; omega)
  refine run ?_; refine aoR fun _ => ?_
  refine run ?_; rotate_left
  refine uI fun _ => ?_; try (exfalso; omega)
  refine run ?_; refine aoR fun _ => ?_
  refine run ?_; rotate_left
  refine uI fun _ => ?_; try (exfalso; omega)
  ·refine ⟨_, rfl, ?_, leP⟩
   rw [ht, wW l n k (by omega), if_pos (by assumption)]
  ·refine round (k + 1) ⟨by omega, ?_⟩ (by omega) leP leP
   rw [ht, wW l n k (by omega), if_neg (by assumption)]
 ·refine run ?_
  refine aoR fun _ => ?_; refine run ?_
  refine cnd ?_ ?_
  refine uH fun _ => ?_; try (exfalso; omega)
  refine uI fun _ => ?_; try (exfalso; omega)
  refine run ?_; refine aoR fun _ => ?_
  refine run ?_; rotate_left
  refine ⟨_, rfl, ?_, leP⟩
  rw [ht, show k = l.length by omega, List.drop_length]; rfl
set_option maxRecDepth 100000
def prevZ : Nat → Int
 | 0 => -1
 | p + 1 => (p : Int)
theorem nT (p : Nat) : prevZ p = (p : Int) - 1 := by cases p <;> simp [prevZ]
theorem gR (o : List Int) (z : Int) : o.contains z = !decide (atI o z < 0) := by
 rw [Bool.eq_iff_iff]
 simp only [List.contains_iff_mem, Bool.not_eq_true', decide_eq_false_iff_not]
 rw [iH]
 simp
theorem oO {fe : Nat → Bool} {L : List (Int × Int)} {o : List Int} {n : Nat} (h : fe n = true ∨ 0 ≤ atI o n) : gfree fe L o n = false := by
 cases hg : gfree fe L o n with
 | false => rfl
 | true =>
  obtain ⟨h1, h2, _⟩ := zX.1 hg
  rcases h with h | h
  ·rw [h1] at h; cases h
  ·have := (iH o n).2 (by simpa using h2)
   omega
theorem takeP_step (L : List (Int × Int)) (f : Int × Int → Bool) {i : Nat} (h : i < L.length) : (L.take (i + 1)).all f = ((L.take i).all f && f (L.getD i default)) := by
 rw [vZ L default i h, List.all_append]; simp
set_option maxHeartbeats 8000000 in
theorem rGlobal_p (x : Ex) (hx : x.rel) (hk : x.rok) : Pure E.P 26 [exOV x] (.tu [.d (ints (grun x.evs.length (feB x) (gloL x) (gmany (feB x) x.evs.length) []).1), .bool (grun x.evs.length (feB x) (gloL x) (gmany (feB x) x.evs.length) []).2]) := by
 have hP := rGlo_p hx hk
 have hN := hx.len
 have hLn := jJ hx
 generalize gloL x = L at hP hLn ⊢
 have gm0 : gmany (feB x) 0 = 0 := rfl
 have gms := jI (fe := feB x)
 have gmle := eH (fe := feB x)
 generalize gmany (feB x) = gm at gm0 gms gmle ⊢
 have hM := gmle x.evs.length
 obtain ⟨M, hMe⟩ : ∃ M, M = gm x.evs.length := ⟨_, rfl⟩
 rw [← hMe] at hM ⊢
 have f1 : Frozen 1 := ⟨trivial⟩
 have f2 : Frozen 2 := ⟨trivial⟩
 refine FnW.toR ?_
 refine wD (vs := [.tmp 2, .tmp 3]) Tryz.func26 (by decide) rfl Tryz.ntmps26 (Nat.le_of_ble_eq_true rfl) rfl ?_
 refine run ?_; refine aoR fun _ => ?_
 refine run ?_; refine aoR fun _ => ?_
 refine run ?_
 apply uM; exact rfl; exact .fn _ _ _; exact rfl; exact hP
 refine run ?_; refine aoR fun _ => ?_
 refine run ?_; refine aoR fun _ => ?_
 refine run ?_; refine aoR fun _ => ?_
 refine run ?_; rotate_left
 rename_i v5 _ _
 refine uS (X := Nat) (fun i => tmL [(1, .d (.pt (exRow x) 0)), (4, .d (pairsTV L)), (5, .os 5 (v5, 0) 1 0), (6, .int .i64 (gm i)), (7, .int .i64 i)]) (fun _ => stL [(5, ((v5, 0), ⟨1, []⟩))]) (fun i => i ≤ x.evs.length) (fun i => x.evs.length - i) 0 (Nat.zero_le _) (by repeat' (first | exact vH _ | exact vJ _ | refine uD rfl ?_ | refine uZ rfl ?_ | (refine uR rfl ?_ ?_; (omega)) | (refine uO rfl ?_ ?_; (omega)) | (refine uV rfl ?_ ?_; (omega)))) leP ?_
 intro i hi
 have hgs := gms i
 have hgl := gmle i
 by_cases hlt : i < x.evs.length
 ·refine run ?_
  refine aoR fun _ => ?_; refine run ?_
  refine cnd ?_ ?_
  refine uH fun _ => ?_; try (exfalso; omega)
  refine run ?_; refine aoR fun _ => ?_
  refine run ?_; refine cnd ?_ ?_
  refine wB (fun _ => ?_); (try (exfalso; omega))
  refine aoR fun _ => ?_; refine run ?_
  refine aoR fun _ => ?_; refine run ?_
  rotate_left
  refine vV (fun _ => ?_); (try (exfalso; omega))
  refine run ?_; refine aoR fun _ => ?_
  refine run ?_; rotate_left
  refine uI fun _ => ?_; try (exfalso; omega)
  ·rename_i hf _ _
   have hf' : feB x i = false := decide_eq_false hf
   rw [hf', if_neg (by decide)] at hgs
   exact uY (i + 1) (by omega) (by omega) (by repeat' (first | exact vH _ | exact vJ _ | refine uD rfl ?_ | refine uZ rfl ?_ | (refine uR rfl ?_ ?_; (omega)) | (refine uO rfl ?_ ?_; (omega)) | (refine uV rfl ?_ ?_; (omega)))) leP
  ·rename_i hf _
   have hf' : feB x i = true := decide_eq_true hf
   rw [hf', if_pos rfl] at hgs
   exact uY (i + 1) (by omega) (by omega) (by repeat' (first | exact vH _ | exact vJ _ | refine uD rfl ?_ | refine uZ rfl ?_ | (refine uR rfl ?_ ?_; (omega)) | (refine uO rfl ?_ ?_; (omega)) | (refine uV rfl ?_ ?_; (omega)))) leP
 have hi' : i = x.evs.length := by omega
 subst hi'
 rw [← hMe]
 refine run ?_; refine aoR fun _ => ?_
 refine run ?_; refine cnd ?_ ?_
 refine uH fun _ => ?_; try (exfalso; omega)
 refine uI fun _ => ?_; try (exfalso; omega)
 refine run ?_; rotate_left
 refine uS (X := Nat × Stamp × List Int) (fun p => tmL [(1, .d (.pt (exRow x) 0)), (4, .d (pairsTV L)), (5, .os 5 p.2.1 1 p.2.2.length), (6, .int .i64 M)]) (fun p => stL [(5, (p.2.1, ⟨1, p.2.2.map (cellO .i64)⟩))])
  (fun p => p.2.2.length + p.1 = M ∧ grun x.evs.length (feB x) L p.1 p.2.2 = grun x.evs.length (feB x) L M []) (fun p => p.1) (M, (v5, 0), []) ⟨by simp, rfl⟩ leP leP ?_
 rintro ⟨k, τ, o⟩ ⟨hk2, hr⟩
 dsimp only at hk2 hr ⊢
 cases k with
 | zero =>
  have z5 := FzR.ints o
  refine xH 5 τ 1 (o.map cell) (tmL [(1, .d (.pt (exRow x) 0)), (4, .d (pairsTV L)), (5, .d (ints o)), (6, .int .i64 M)]) (stL []) (by rw [← z5.eq]; rfl) (by repeat' (first | exact yL | exact fK | exact frc_nil | exact frr_nil | refine vX rfl (.same _) ?_ | refine vX rfl (xG (by simp)) ?_ | refine aI (by decide) rfl (FrozR.same _) ?_ | refine aI (by decide) rfl ?_ ?_ | refine jK oQ ?_ | refine jK ?_ ?_ | refine bM (.same _) ?_ | refine bM (xG (by first | rfl | simp)) ?_ | refine bM (.nil _) ?_)) (by repeat' (first | exact yL | exact fK | exact frc_nil | exact frr_nil | refine vX rfl (.same _) ?_ | refine vX rfl (xG (by simp)) ?_ | refine aI (by decide) rfl (FrozR.same _) ?_ | refine aI (by decide) rfl ?_ ?_ | refine jK oQ ?_ | refine jK ?_ ?_ | refine bM (.same _) ?_ | refine bM (xG (by first | rfl | simp)) ?_ | refine bM (.nil _) ?_)) ?_
  refine run ?_; refine aoR fun _ => ?_
  refine run ?_; refine cnd ?_ ?_
  refine uH fun _ => ?_; try (exfalso; omega)
  refine uI fun _ => ?_; try (exfalso; omega)
  refine run ?_; refine aoR fun _ => ?_
  refine run ?_; rotate_left
  refine xQ rfl rfl ?_
  rw [← hr]; rfl
 | succ k =>
  have hAt : ∀ z, FnW E.P 33 [.os 5 τ 1 o.length, .int .i64 z] (stL [(5, (τ, ⟨1, o.map (cellO .i64)⟩))]) (IsW (.int .i64 (atI o z)) (stL [(5, (τ, ⟨1, o.map (cellO .i64)⟩))])) := fun z => at_w o z τ (by omega)
  have gsN := gsince_top (N := x.evs.length) (fe := feB x) (L := L) (o := o)
  have gsS : ∀ m, m < x.evs.length → _ := fun m => gsince_step (N := x.evs.length) (fe := feB x) (L := L) (o := o) (m := m)
  have gsA := gsince_all (N := x.evs.length) (fe := feB x) (L := L) (o := o)
  have gsB := gsince_bd (N := x.evs.length) (fe := feB x) (L := L) (o := o)
  generalize gsince x.evs.length (feB x) L o = gs at gsN gsS gsA gsB
  have hpN := nT x.evs.length
  refine run ?_; refine aoR fun _ => ?_
  refine run ?_; refine cnd ?_ ?_
  refine uH fun _ => ?_; try (exfalso; omega)
  refine run ?_; refine aoR fun _ => ?_
  refine run ?_; refine aoR fun _ => ?_
  refine run ?_; rotate_left
  refine uI fun _ => ?_; try (exfalso; omega)
  refine uS (X := Nat) (fun m => tmL [(1, .d (.pt (exRow x) 0)), (4, .d (pairsTV L)), (5, .os 5 τ 1 o.length), (6, .int .i64 M), (8, .int .i64 (gs m)), (9, .int .i64 (prevZ m))]) (fun _ => stL [(5, (τ, ⟨1, o.map (cellO .i64)⟩))]) (fun m => m ≤ x.evs.length) (fun m => m) x.evs.length (Nat.le_refl _) (by repeat' (first | exact vH _ | exact vJ _ | refine uD rfl ?_ | refine uZ rfl ?_ | (refine uR rfl ?_ ?_; (omega)) | (refine uO rfl ?_ ?_; (omega)) | (refine uV rfl ?_ ?_; (omega)))) leP ?_
  intro m hm
  cases m with
  | zero =>
   rw [show prevZ 0 = -1 from rfl]
   cases hg : gnext x.evs.length (feB x) L o with
   | none =>
    have hgs : gs 0 = -1 := by rw [gsA, hg]
    rw [hgs]
    refine run ?_; refine aoR fun _ => ?_
    refine run ?_; refine cnd ?_ ?_
    refine uH fun _ => ?_; try (exfalso; omega)
    refine uI fun _ => ?_; try (exfalso; omega)
    refine run ?_; refine aoR fun _ => ?_
    refine run ?_; refine cnd ?_ ?_
    refine uH fun _ => ?_; try (exfalso; omega)
    refine run ?_; refine aoR fun _ => ?_
    refine run ?_; rotate_left
    refine uI fun _ => ?_; try (exfalso; omega)
    refine xQ rfl rfl ?_
    rw [← hr]; unfold grun; rw [hg]; rfl
   | some n =>
    have hgs : gs 0 = (n : Int) := by rw [gsA, hg]
    have hn := (jH hg).1
    rw [hgs]
    refine run ?_; refine aoR fun _ => ?_
    refine run ?_; refine cnd ?_ ?_
    refine uH fun _ => ?_; try (exfalso; omega)
    refine uI fun _ => ?_; try (exfalso; omega)
    refine run ?_; refine aoR fun _ => ?_
    refine run ?_; refine cnd ?_ ?_
    refine uH fun _ => ?_; try (exfalso; omega)
    refine uI fun _ => ?_; try (exfalso; omega)
    refine run ?_; refine aoR fun _ => ?_
    refine run ?_; rotate_left
    rename_i v89
    exact uY (k, (v89, 4), o ++ [(n : Int)]) ⟨by dsimp only; rw [List.length_append]; simp; omega, by dsimp only; rw [← hr, grun, hg]⟩ (by dsimp only; omega) (by repeat' (first | exact vH _ | exact vJ _ | refine uD rfl ?_ | refine uZ rfl ?_ | (refine uR rfl ?_ ?_; (simp <;> rfl)) | (refine uO rfl ?_ ?_; (simp <;> rfl)) | (refine uV rfl ?_ ?_; (simp <;> rfl)))) (by repeat' (first | exact vH _ | exact vJ _ | refine uD rfl ?_ | refine uZ rfl ?_ | (refine uR rfl ?_ ?_; (simp <;> rfl)) | (refine uO rfl ?_ ?_; (simp <;> rfl)) | (refine uV rfl ?_ ?_; (simp <;> rfl))))
  | succ p =>
   have hg := gsS p (by omega)
   have hpp := nT p
   rw [show prevZ (p + 1) = (p : Int) from rfl]
   refine uQ ?_; refine aoR fun _ => ?_
   refine uQ ?_; refine cnd ?_ ?_
   refine uH fun _ => ?_; try (exfalso; omega)
   refine uQ ?_; refine aoR fun _ => ?_
   refine uQ ?_
   apply vT; exact rfl; exact rfl
   refine uI fun _ => ?_; try (exfalso; omega)
   refine uQ ?_
   apply vT; exact rfl; exact rfl
   refine uJ ?_; refine uQ ?_
   apply vT; exact rfl; exact rfl
   refine uJ ?_
   apply mY; exact rfl; exact .fn _ _ _; exact rfl; exact hAt _; exact leP; exact rfl; simp
   apply vT; exact rfl; exact rfl
   refine uJ ?_; refine uQ ?_; refine cnd ?_ ?_
   refine wS (fun hc_ => ?_); (try simp only [nrm] at hc_)
   refine uQ ?_; refine aoR fun _ => ?_
   refine uQ ?_; rotate_left
   refine wT ?_; refine uJ ?_
   refine uI fun _ => ?_; try (exfalso; omega)
   refine uQ ?_; refine aoR fun _ => ?_
   refine uQ ?_; refine aoR fun _ => ?_
   refine uQ ?_; rotate_left
   iterate 3 exact uK
   refine uH fun _ => ?_; try (exfalso; omega)
   apply vT; exact rfl; exact rfl
   exact wA
   refine uL ?_
   apply vT; exact rfl; exact rfl
   exact wA
   refine uL ?_
   apply vT; exact rfl; exact rfl
   exact wA
   refine uL ?_; refine uQ ?_; refine cnd ?_ ?_; refine uL ?_; refine uQ ?_; refine aoR fun _ => ?_
   refine uQ ?_; rotate_left
   exact wA
   refine uI fun _ => ?_; try (exfalso; omega)
   ·rw [show gfree (feB x) L o p = false from oO (Or.inr (hc_.resolve_left (by decide))), if_neg (by decide)] at hg
    exact uY p (by omega) (by omega) (by repeat' (first | exact vH _ | exact vJ _ | refine uD rfl ?_ | refine uZ rfl ?_ | (refine uR rfl ?_ ?_; (omega)) | (refine uO rfl ?_ ?_; (omega)) | (refine uV rfl ?_ ?_; (omega)))) leP
   ·rename_i hf hat _ _
    refine uS (X := Nat) (fun i => tmL [(1, .d (.pt (exRow x) 0)), (4, .d (pairsTV L)), (5, .os 5 τ 1 o.length), (6, .int .i64 M), (8, .int .i64 (gs (p + 1))), (9, .int .i64 p), (10, .bool ((L.take i).all fun q => !gback o p q)), (11, .int .i64 i)]) (fun _ => stL [(5, (τ, ⟨1, o.map (cellO .i64)⟩))]) (fun i => i ≤ L.length) (fun i => L.length - i) 0 (Nat.zero_le _) (by repeat' (first | exact vH _ | exact vJ _ | refine uD rfl ?_ | refine uZ rfl ?_ | (refine uR rfl ?_ ?_; (simp)) | (refine uO rfl ?_ ?_; (simp)) | (refine uV rfl ?_ ?_; (simp)))) leP ?_
    intro i hi
    have hts := fun h => takeP_step L (fun q => !gback o p q) (i := i) h
    generalize hb : ((L.take i).all fun q => !gback o p q) = b at hts
    by_cases hlt : i < L.length
    ·have hts := hts hlt
     refine uQ ?_; refine aoR fun _ => ?_
     refine uQ ?_; refine cnd ?_ ?_
     refine uH fun _ => ?_; try (exfalso; omega)
     refine uQ ?_; refine aoR fun _ => ?_
     refine uQ ?_
     apply uF; exact rfl; exact rfl
     refine xB (fun _ => ?_)
     refine uQ ?_
     apply uF; exact rfl; exact rfl
     refine uL ?_; refine uQ ?_
     apply uF; exact rfl; exact rfl
     refine uL ?_; refine uQ ?_
     apply uF; exact rfl; exact rfl
     refine uL ?_; refine uQ ?_
     apply uF; exact rfl; exact rfl
     refine uL ?_; refine uQ ?_
     apply uF; exact rfl; exact rfl
     refine uL ?_; refine uQ ?_
     apply uF; exact rfl; exact rfl
     refine uL ?_; refine uQ ?_
     apply uF; exact rfl; exact rfl
     refine uL ?_; refine uQ ?_
     apply uF; exact rfl; exact rfl
     refine uH fun _ => ?_; try (exfalso; omega)
     refine uQ ?_
     apply uF; exact rfl; exact rfl
     refine uL ?_; refine uQ ?_
     apply uF; exact rfl; exact rfl
     refine uL ?_; refine uQ ?_
     apply uF; exact rfl; exact rfl
     refine uL ?_; refine uQ ?_
     apply uF; exact rfl; exact rfl
     refine uL ?_; refine uQ ?_
     apply uF; exact rfl; exact rfl
     refine uL ?_; refine uQ ?_
     apply uF; exact rfl; exact rfl
     refine uL ?_
     apply mY; exact rfl; exact .fn _ _ _; exact rfl; exact hAt _; exact leP; exact rfl; simp
     apply uF; exact rfl; exact rfl
     refine uL ?_; refine uQ ?_
     apply uF; exact rfl; exact rfl
     refine uL ?_; refine uQ ?_
     apply uF; exact rfl; exact rfl
     refine uL ?_; refine uQ ?_; refine aoR fun _ => ?_
     refine uQ ?_; rotate_left
     iterate 9 exact wA
     refine uI fun _ => ?_; try (exfalso; omega)
     apply uF; exact rfl; exact rfl
     exact uK
     refine uJ ?_
     apply uF; exact rfl; exact rfl
     exact uK
     refine uJ ?_
     apply uF; exact rfl; exact rfl
     exact uK
     refine uJ ?_
     apply uF; exact rfl; exact rfl
     exact uK
     refine uJ ?_
     apply uF; exact rfl; exact rfl
     exact uK
     refine uJ ?_
     apply uF; exact rfl; exact rfl
     exact uK
     refine uJ ?_
     apply uF; exact rfl; exact rfl
     exact uK
     refine uJ ?_
     apply uF; exact rfl; exact rfl
     refine uL ?_; refine uQ ?_
     apply uF; exact rfl; exact rfl
     refine uL ?_; refine uQ ?_; refine aoR fun _ => ?_
     refine uQ ?_; rotate_left
     iterate 9 exact wA
     refine gN (fun _ => ?_)
     apply uF; exact rfl; exact rfl
     exact uK
     refine uJ ?_
     apply uF; exact rfl; exact rfl
     exact uK
     refine uJ ?_
     apply uF; exact rfl; exact rfl
     exact uK
     refine uJ ?_
     apply uF; exact rfl; exact rfl
     exact uK
     refine uJ ?_
     apply uF; exact rfl; exact rfl
     exact uK
     refine uJ ?_
     apply uF; exact rfl; exact rfl
     exact uK
     refine uJ ?_
     apply uF; exact rfl; exact rfl
     exact uK
     refine uJ ?_; refine uQ ?_
     apply uF; exact rfl; exact rfl
     exact uK
     refine uJ ?_
     apply uF; exact rfl; exact rfl
     exact uK
     refine uJ ?_; refine uQ ?_; refine aoR fun _ => ?_
     refine uQ ?_; rotate_left
     refine uI fun _ => ?_; try (exfalso; omega)
     ·rename_i h1 h2 _
      have e10 : ((L.take (i + 1)).all fun q => !gback o p q) = !decide (atI o (L.getD (i : Int).toNat default).1 < 0) := by
       rw [hts, h1]
       unfold gback
       rw [Int.toNat_natCast] at h2 ⊢
       rw [decide_eq_true h2, gR]
       simp
      exact uY (i + 1) (by omega) (by omega) (uD rfl (uD rfl (uD rfl (uD rfl (uD rfl (uD rfl (uD (congrArg (fun z : Bool => some (OV.bool z)) e10.symm) (uD rfl (vH _))))))))) leP
     ·rename_i h1 h2 _
      have e10 : ((L.take (i + 1)).all fun q => !gback o p q) = true := by
       rw [hts, h1]
       unfold gback
       rw [Int.toNat_natCast] at h2
       rw [decide_eq_false h2]
       rfl
      exact uY (i + 1) (by omega) (by omega) (uD rfl (uD rfl (uD rfl (uD rfl (uD rfl (uD rfl (uD (congrArg (fun z : Bool => some (OV.bool z)) e10.symm) (uD rfl (vH _))))))))) leP
     ·rename_i h1 _
      have e10 : ((L.take (i + 1)).all fun q => !gback o p q) = false := by
       rw [hts, h1]; rfl
      exact uY (i + 1) (by omega) (by omega) (uD rfl (uD rfl (uD rfl (uD rfl (uD rfl (uD rfl (uD (congrArg (fun z : Bool => some (OV.bool z)) e10.symm) (uD rfl (vH _))))))))) leP
    ·have hfr : gfree (feB x) L o p = b := by
      rw [List.take_of_length_le (by omega)] at hb
      unfold gfree
      rw [hb, gR, show feB x p = false from decide_eq_false hf, decide_eq_true (show atI o (p : Int) < 0 by omega)]
      rfl
     rw [hfr] at hg
     refine run ?_; refine aoR fun _ => ?_
     refine run ?_; refine cnd ?_ ?_
     refine uH fun _ => ?_; try (exfalso; omega)
     refine uI fun _ => ?_; try (exfalso; omega)
     refine run ?_; refine aoR fun _ => ?_
     refine run ?_; refine cnd ?_ ?_
     refine xB (fun _ => ?_)
     refine aoR fun _ => ?_; refine run ?_
     refine aoR fun _ => ?_; refine run ?_
     rotate_left
     refine gN (fun _ => ?_)
     refine run ?_; refine aoR fun _ => ?_
     refine run ?_; rotate_left
     ·rename_i h1 _ _
      rw [h1, if_pos rfl] at hg
      exact uY p (by omega) (by omega) (by repeat' (first | exact vH _ | exact vJ _ | refine uD rfl ?_ | refine uZ rfl ?_ | (refine uR rfl ?_ ?_; (omega)) | (refine uO rfl ?_ ?_; (omega)) | (refine uV rfl ?_ ?_; (omega)))) leP
     ·rename_i h1 _
      rw [h1, if_neg (by decide)] at hg
      exact uY p (by omega) (by omega) (by repeat' (first | exact vH _ | exact vJ _ | refine uD rfl ?_ | refine uZ rfl ?_ | (refine uR rfl ?_ ?_; (omega)) | (refine uO rfl ?_ ?_; (omega)) | (refine uV rfl ?_ ?_; (omega)))) leP
   ·rename_i hf _
    rw [show gfree (feB x) L o p = false from oO (Or.inl (decide_eq_true hf)), if_neg (by decide)] at hg
    exact uY p (by omega) (by omega) (by repeat' (first | exact vH _ | exact vJ _ | refine uD rfl ?_ | refine uZ rfl ?_ | (refine uR rfl ?_ ?_; (omega)) | (refine uO rfl ?_ ?_; (omega)) | (refine uV rfl ?_ ?_; (omega)))) leP
set_option maxHeartbeats 4000000
set_option maxRecDepth 100000
theorem fit8 {x : Ex} (hx : x.ok) (hw : wideB8 x = false) : x.fit ∧ x.evs.length ≤ 20 := ⟨⟨hx, fun r hr => Nat.le_trans (wide8_row hw r hr) (by decide)⟩, by
 unfold wideB8 at hw
 simp only [Bool.or_eq_false_iff, decide_eq_false_iff_not] at hw
 omega⟩
end Go.Proofs.YtnkocjkkefnelaaGreat
