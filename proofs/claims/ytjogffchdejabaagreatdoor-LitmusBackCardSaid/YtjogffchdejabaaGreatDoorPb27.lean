/- Parts. -/
import Derived.Test.YtjogffchdejabaaGreatDoorRows
import Derived.LaidSub
import Derived.LaidMore
import Derived.Lib.LaidTab
import Derived.Lib.LaidU8
import Derived.Stop.LaidErr
import Derived.Test.YtjogffchdejabaaGreatDoorPb3
import Derived.Test.YtjogffchdejabaaGreatDoorPb4
import Derived.Test.YtjogffchdejabaaGreatDoorPb9
import Derived.Test.YtjogffchdejabaaGreatDoorPb10
import Derived.Test.YtjogffchdejabaaGreatDoorPb12
import Derived.Test.YtjogffchdejabaaGreatDoorPb13
import Derived.Test.YtjogffchdejabaaGreatDoorPb14
import Derived.Test.YtjogffchdejabaaGreatDoorPb15
import Derived.Test.YtjogffchdejabaaGreatDoorPb26
set_option linter.unusedVariables false
set_option linter.unusedSimpArgs false
set_option maxHeartbeats 4000000
set_option maxRecDepth 100000
namespace Go.Proofs.YtjogffchdejabaaGreatDoor
open Go.RowKit
section
open Go.RowKit Go.Lib
theorem works_p : Pure E.P 17 [] (.bool true) := iV (Ev.works_run default).1 rfl fun G w vs hr hm => by
 rw [RepOL] at hr
 subst hr
 exact (Ev.works_run w).2.mono fun e w' ⟨h1, h2, h3, h4, h5, h6⟩ => ⟨h1, ⟨h2, h3, h4, h5, h6⟩⟩
theorem num_p (n : Int) : Pure E.P 16 [.int .i64 n] (.int .i64 n) := by
 refine fnA Tryz.func16 Tryz.ntmps16 ?_
 refine run ?_; refine aoR fun _ => ?_
 refine run ?_; refine aoR fun _ => ?_
 refine run ?_; rotate_left
 all_goals exact xL rfl rfl
end
set_option maxRecDepth 100000
section
open Go.RowKit Go.Lib
theorem oH {α : Type} {l m : List α} {d : α} {i : Nat} (h : l.getD i d ≠ m.getD i d) : ¬ l = m := fun e => h (by rw [e])
theorem eq_take_succ {l m : List Stp} {i : Nat} (hl : i < l.length) (hm : i < m.length) (h : l.take i = m.take i) (e : l.getD i default = m.getD i default) : l.take (i + 1) = m.take (i + 1) := by
 rw [vR l default i hl, vR m default i hm, h, e]
theorem eq_take_succT {l m : Ts} {i : Nat} (hl : i < l.length) (hm : i < m.length) (h : l.take i = m.take i) (e : l.getD i default = m.getD i default) : l.take (i + 1) = m.take (i + 1) := by
 rw [vR l default i hl, vR m default i hm, h, e]
set_option maxHeartbeats 4000000 in
theorem equal_p (l m : List Stp) (hl : l.length ≤ 1152921504606846976) (hm : m.length ≤ 1152921504606846976) : Pure E.P 77 [.d (stsTV l), .d (stsTV m)] (.bool (decide (l = m))) := by
 refine fnA Tryz.func77 Tryz.ntmps77 ?_
 by_cases h0 : l.length = m.length
 ·refine run ?_
  refine aoR fun _ => ?_; refine run ?_
  refine aoR fun _ => ?_; refine run ?_
  refine cnd ?_ ?_
  refine bS (fun _ => ?_); (try omega)
  refine yX (fun _ => ?_); (try omega)
  refine run ?_; refine aoR fun _ => ?_
  refine run ?_; rotate_left
  all_goals try omega
  refine vA (X := Nat) (fun i => tmL [(0, .d (stsTV l)), (1, .d (stsTV m)), (11, .d (stsTV l)), (12, .int .i64 l.length), (13, .int .i64 i)]) (fun _ => stL []) (fun i => i ≤ l.length ∧ l.take i = m.take i) (fun i => l.length - i) 0 ⟨Nat.zero_le _, rfl⟩ (by repeat' (first | exact vP _ | exact uL _ | refine uO rfl ?_ | refine uS rfl ?_ | (refine vD rfl ?_ ?_; (simp [stsTV])) | (refine uR rfl ?_ ?_; (simp [stsTV])) | (refine uN rfl ?_ ?_; (simp [stsTV])))) leP ?_
  rintro i ⟨hi, ht⟩
  by_cases hlt : i < l.length
  ·by_cases he : l.getD (i : Int).toNat default = m.getD (i : Int).toNat default
   ·refine run ?_
    refine aoR fun _ => ?_; refine run ?_
    refine cnd ?_ ?_
    refine uE fun _ => ?_; try omega
    refine run ?_; refine aoR fun _ => ?_
    refine run ?_
    refine uG (E := E) ?_ (fun _ => ?_); exact rfl
    refine run ?_
    ((apply qH (l.getD (i : Int).toNat default) (m.getD (i : Int).toNat default)); exact rfl; exact rfl)
    refine run ?_; refine cnd ?_ ?_
    refine bS (fun _ => ?_); (try omega)
    refine run ?_; refine aoR fun _ => ?_
    refine run ?_; rotate_left
    refine yX (fun _ => ?_); (try omega)
    refine run ?_; refine aoR fun _ => ?_
    refine run ?_; rotate_left
    refine uF fun _ => ?_; try omega
    all_goals first
     | exact uU (i + 1) ⟨by omega, eq_take_succ hlt (by omega) ht he⟩ (by omega) leP leP
     | (exfalso; contradiction)
     | (exfalso; omega)
   ·have e : decide (l = m) = false := decide_eq_false (oH (d := default) (i := (i : Int).toNat) he)
    rw [e]
    refine run ?_; refine aoR fun _ => ?_
    refine run ?_; refine cnd ?_ ?_
    refine uE fun _ => ?_; try omega
    refine run ?_; refine aoR fun _ => ?_
    refine run ?_
    refine uG (E := E) ?_ (fun _ => ?_); exact rfl
    refine run ?_
    ((apply qH (l.getD (i : Int).toNat default) (m.getD (i : Int).toNat default)); exact rfl; exact rfl)
    refine run ?_; refine cnd ?_ ?_
    refine bS (fun _ => ?_); (try omega)
    refine run ?_; refine aoR fun _ => ?_
    refine run ?_; rotate_left
    refine yX (fun _ => ?_); (try omega)
    refine run ?_; refine aoR fun _ => ?_
    refine run ?_; rotate_left
    refine uF fun _ => ?_; try omega
    all_goals first
     | exact uX rfl rfl
     | (exfalso; contradiction)
     | (exfalso; omega)
  ·have hil : i = l.length := by omega
   subst hil
   have e : decide (l = m) = true := decide_eq_true (by rwa [List.take_length, h0, List.take_length] at ht)
   rw [e]
   refine run ?_; refine aoR fun _ => ?_
   refine run ?_; refine cnd ?_ ?_
   refine uE fun _ => ?_; try omega
   refine uF fun _ => ?_; try omega
   refine run ?_; refine aoR fun _ => ?_
   refine run ?_; rotate_left
   all_goals first | exact uX rfl rfl | (exfalso; omega)
 ·have e : decide (l = m) = false := decide_eq_false fun e => h0 (by rw [e])
  rw [e]
  refine run ?_; refine aoR fun _ => ?_
  refine run ?_; refine aoR fun _ => ?_
  refine run ?_; refine cnd ?_ ?_
  refine bS (fun _ => ?_); (try omega)
  refine run ?_; refine aoR fun _ => ?_
  refine run ?_; rotate_left
  refine yX (fun _ => ?_); (try omega)
  all_goals first | exact uX rfl rfl | (exfalso; omega)
set_option maxHeartbeats 1000000 in
theorem same1_p (l m : List Stp) (hl : l.length ≤ 1152921504606846976) (hm : m.length ≤ 1152921504606846976) : Pure E.P 76 [.d (stsTV l), .d (stsTV m)] (.bool (decide (l = m))) := by
 have c := equal_p l m hl hm
 refine fnA Tryz.func76 Tryz.ntmps76 ?_
 refine run ?_; refine aoR fun _ => ?_
 refine run ?_; refine aoR fun _ => ?_
 refine run ?_
 apply uA; exact rfl; exact .fn _ _ _; exact rfl; exact c
 refine run ?_; rotate_left
 all_goals exact uX rfl rfl
theorem oY {a : Ts} {i : Nat} (ha : ∀ l ∈ a, l.length ≤ 1152921504606846976) (h : i < a.length) : (a.getD i default).length ≤ 1152921504606846976 := ha _ (wP h)
set_option maxHeartbeats 4000000 in
theorem equalF_p (a b : Ts) (hl : a.length ≤ 1152921504606846976) (hm : b.length ≤ 1152921504606846976) (ha : ∀ l ∈ a, l.length ≤ 1152921504606846976) (hb : ∀ l ∈ b, l.length ≤ 1152921504606846976) :
  Pure E.P 75 [.d (.sl 1 (a.map catRowT)), .d (.sl 1 (b.map catRowT)), .fn 76 [] []] (.bool (decide (a = b))) := by
 refine fnA Tryz.func75 Tryz.ntmps75 ?_
 by_cases h0 : a.length = b.length
 ·refine run ?_
  refine aoR fun _ => ?_; refine run ?_
  refine aoR fun _ => ?_; refine run ?_
  refine cnd ?_ ?_
  refine bS (fun _ => ?_); (try omega)
  refine yX (fun _ => ?_); (try omega)
  refine run ?_; refine aoR fun _ => ?_
  refine run ?_; rotate_left
  all_goals try omega
  refine vA (X := Nat) (fun i => tmL [(1, .d (.sl 1 (b.map catRowT))), (2, .fn 76 [] []), (15, .d (.sl 1 (a.map catRowT))), (16, .int .i64 a.length), (17, .int .i64 i)]) (fun _ => stL []) (fun i => i ≤ a.length ∧ a.take i = b.take i) (fun i => a.length - i) 0 ⟨Nat.zero_le _, rfl⟩ (by repeat' (first | exact vP _ | exact uL _ | refine uO rfl ?_ | refine uS rfl ?_ | (refine vD rfl ?_ ?_; (simp)) | (refine uR rfl ?_ ?_; (simp)) | (refine uN rfl ?_ ?_; (simp)))) leP ?_
  rintro i ⟨hi, ht⟩
  by_cases hlt : i < a.length
  ·have c := same1_p (a.getD (i : Int).toNat default) (b.getD (i : Int).toNat default) (oY ha hlt) (oY hb (show i < b.length by omega))
   by_cases he : a.getD (i : Int).toNat default = b.getD (i : Int).toNat default
   ·rw [decide_eq_true he] at c
    refine run ?_; refine aoR fun _ => ?_
    refine run ?_; refine cnd ?_ ?_
    refine uE fun _ => ?_; try omega
    refine run ?_; refine aoR fun _ => ?_
    refine run ?_; refine aoR fun _ => ?_
    refine run ?_; refine aoR fun _ => ?_
    refine run ?_
    apply uA; exact rfl; exact .fn _ _ _; exact rfl; exact c
    refine run ?_; refine cnd ?_ ?_; refine yY ?_
    exact uM
    refine wN ?_; refine uJ ?_; refine run ?_; refine aoR fun _ => ?_
    refine run ?_; rotate_left
    refine uF fun _ => ?_; try omega
    all_goals exact uU (i + 1) ⟨by omega, eq_take_succT hlt (by omega) ht he⟩ (by omega) leP leP
   ·have e : decide (a = b) = false := decide_eq_false (oH (d := default) (i := (i : Int).toNat) he)
    rw [e]
    rw [decide_eq_false he] at c
    refine run ?_; refine aoR fun _ => ?_
    refine run ?_; refine cnd ?_ ?_
    refine uE fun _ => ?_; try omega
    refine run ?_; refine aoR fun _ => ?_
    refine run ?_; refine aoR fun _ => ?_
    refine run ?_; refine aoR fun _ => ?_
    refine run ?_
    apply uA; exact rfl; exact .fn _ _ _; exact rfl; exact c
    refine run ?_; refine cnd ?_ ?_; refine yY ?_; refine vH ?_; refine run ?_; refine aoR fun _ => ?_
    refine run ?_; rotate_left
    refine wN ?_
    exact vS
    refine uF fun _ => ?_; try omega
    all_goals exact uX rfl rfl
  ·have hil : i = a.length := by omega
   subst hil
   have e : decide (a = b) = true := decide_eq_true (by rwa [List.take_length, h0, List.take_length] at ht)
   rw [e]
   refine run ?_; refine aoR fun _ => ?_
   refine run ?_; refine cnd ?_ ?_
   refine uE fun _ => ?_; try omega
   refine uF fun _ => ?_; try omega
   refine run ?_; refine aoR fun _ => ?_
   refine run ?_; rotate_left
   all_goals first | exact uX rfl rfl | (exfalso; omega)
 ·have e : decide (a = b) = false := decide_eq_false fun e => h0 (by rw [e])
  rw [e]
  refine run ?_; refine aoR fun _ => ?_
  refine run ?_; refine aoR fun _ => ?_
  refine run ?_; refine cnd ?_ ?_
  refine bS (fun _ => ?_); (try omega)
  refine run ?_; refine aoR fun _ => ?_
  refine run ?_; rotate_left
  refine yX (fun _ => ?_); (try omega)
  all_goals first | exact uX rfl rfl | (exfalso; omega)
set_option maxHeartbeats 1000000 in
theorem same_p (a b : Ts) (hl : a.length ≤ 1152921504606846976) (hm : b.length ≤ 1152921504606846976) (ha : ∀ l ∈ a, l.length ≤ 1152921504606846976) (hb : ∀ l ∈ b, l.length ≤ 1152921504606846976) :
  Pure E.P 35 [testOV a, testOV b] (.bool (decide (a = b))) := by
 have f2 : Frozen 2 := ⟨trivial⟩
 have f3 : Frozen 3 := ⟨trivial⟩
 have c := equalF_p a b hl hm ha hb
 refine fnA Tryz.func35 Tryz.ntmps35 ?_
 refine run ?_; refine aoR fun _ => ?_
 refine run ?_; refine aoR fun _ => ?_
 refine run ?_
 apply uA; exact rfl; exact .fn _ _ _; exact rfl; exact c
 refine run ?_; rotate_left
 all_goals exact uX rfl rfl
end
variable {s : Stp} {t : Ts} {m : List Int} {L : List (String × DataW Unit)} {W : World} {cs : List Value} {r : Reach} {b0 : Nat} {p : List MemPlace}
def prodL : List Int → Int
 | [] => 1
 | a :: l => a * prodL l
def mulC (n f : Int) : Int := if n ≤ 10000 then n * f else n
theorem dU {n f : Int} (hn : 1 ≤ n) (hf : 1 ≤ f) : n ≤ n * f := by
 have := Int.mul_le_mul_of_nonneg_left hf (by omega : 0 ≤ n)
 rwa [Int.mul_one] at this
theorem capI_mulC {n f : Int} (hn : 1 ≤ n) (hf : 1 ≤ f) : capI (mulC n f) = capI (n * f) := by
 have := dU hn hf
 by_cases h : n ≤ 10000
 ·have e : mulC n f = n * f := if_pos h
  rw [e]
 ·have e : mulC n f = n := if_neg h
  rw [e]
  unfold capI
  split <;> split <;> omega
theorem aP {x f : Int} (hx : 1 ≤ x) (hf : 1 ≤ f) : capI (capI x * f) = capI (x * f) := by
 by_cases h : 10001 < x
 ·have h1 := dU hx hf
  have h2 := dU (n := 10001) (by decide) hf
  have e : capI x = 10001 := if_pos h
  rw [e]
  unfold capI
  rw [if_pos (by omega : 10001 < x * f)]
  split <;> omega
 ·have e : capI x = x := if_neg h
  rw [e]
theorem cQ (a b : List Int) : prodL (a ++ b) = prodL a * prodL b := by
 induction a with
 | nil => simp [prodL]
 | cons x a ih => simp [prodL, ih, Int.mul_assoc]
theorem fV : ∀ l : List Int, (∀ f ∈ l, 1 ≤ f) → 1 ≤ prodL l
 | [], _ => by decide
 | a :: l, h => by
  have h1 := h a (by simp)
  have h2 := fV l fun f hf => h f (by simp [hf])
  have := dU h1 h2
  simp only [prodL]; omega
theorem tJ : ∀ (l : List Int) (n : Int), 1 ≤ n → (∀ f ∈ l, 1 ≤ f) → capI (l.foldl mulC n) = capI (n * prodL l) ∧ 1 ≤ l.foldl mulC n
 | [], n, hn, _ => by simp [prodL, hn]
 | a :: l, n, hn, h => by
  have ha := h a (by simp)
  have hp := fV l fun f hf => h f (by simp [hf])
  have hm := dU hn ha
  have h1 : 1 ≤ mulC n a := by unfold mulC; split <;> omega
  obtain ⟨e1, e2⟩ := tJ l (mulC n a) h1 fun f hf => h f (by simp [hf])
  refine ⟨?_, e2⟩
  rw [List.foldl_cons, e1, prodL, ← Int.mul_assoc, ← aP h1 hp, capI_mulC hn ha, aP (by omega) hp]
def cntS (l : List Stp) (v : Int) : Nat := (l.filter fun s => s.sts && decide (s.var = v)).length
def fac : Nat → Int
 | 0 => 1
 | n + 1 => fac n * ((n : Int) + 1)
theorem cX : ∀ n, 1 ≤ fac n
 | 0 => by decide
 | n + 1 => by
  have := dU (cX n) (f := (n : Int) + 1) (by omega)
  have := cX n
  simp only [fac]; omega
def cnts (l : List Stp) : List Int := [(cntS l 0 : Int), (cntS l 1 : Int), (cntS l 2 : Int), (cntS l 3 : Int)]
def facP (l : List Stp) : Int := fac (cntS l 0) * fac (cntS l 1) * fac (cntS l 2) * fac (cntS l 3)
theorem gZ {a b : Int} (ha : 1 ≤ a) (hb : 1 ≤ b) : 1 ≤ a * b := by have := dU ha hb; omega
theorem jO (l : List Stp) : 1 ≤ facP l := gZ (gZ (gZ (cX _) (cX _)) (cX _)) (cX _)
theorem lX (l : List Stp) (s : Stp) (v : Int) : cntS (l ++ [s]) v = cntS l v + (if s.sts = true ∧ s.var = v then 1 else 0) := by
 unfold cntS
 rw [List.filter_append, List.length_append]
 by_cases h : s.sts = true ∧ s.var = v
 ·simp [h.1, h.2]
 ·rw [if_neg h]
  have : (s.sts && decide (s.var = v)) = false := by
   rw [Bool.eq_false_iff]
   simpa using h
  simp [this]
theorem cI (h : s.right = true) : 0 ≤ s.var ∧ s.var ≤ 3 := by cases aI h <;> simp <;> omega
theorem sStep_eq (l : List Stp) (s : Stp) (h : s.right = true) : sStep (cnts l, capI (facP l)) s = (cnts (l ++ [s]), capI (facP (l ++ [s]))) := by
 have hv := cI h
 unfold sStep
 cases hs : s.sts with
 | false =>
  have e : ∀ v, cntS (l ++ [s]) v = cntS l v := fun v => by rw [lX, if_neg (by simp [hs])]; rfl
  simp [cnts, facP, e]
 | true =>
  have e : ∀ v, cntS (l ++ [s]) v = cntS l v + (if s.var = v then 1 else 0) := fun v => by rw [lX]; simp [hs]
  have p := jO l
  dsimp only [cond_true]
  rcases (by omega : s.var = 0 ∨ s.var = 1 ∨ s.var = 2 ∨ s.var = 3) with q | q | q | q
  all_goals
   rw [q] at e ⊢
   simp only [cnts, facP, e, if_true, Int.reduceEq, if_false, Nat.add_zero, fac, Int.toNat_zero, Int.toNat_one, Int.reduceToNat, List.getD_cons_zero, List.getD_cons_succ, List.set_cons_zero, List.set_cons_succ]
   unfold facP at p
   rw [aP p (by omega)]
   refine Prod.ext ?_ ?_
   ·simp
   ·congr 1
    simp only [Int.mul_comm, Int.mul_left_comm, Int.mul_assoc, Int.natCast_add, Int.cast_ofNat_Int]
theorem uAL : ∀ (l2 l1 : List Stp), (∀ s ∈ l2, s.right = true) → l2.foldl sStep (cnts l1, capI (facP l1)) = (cnts (l1 ++ l2), capI (facP (l1 ++ l2)))
 | [], l1, _ => by simp
 | s :: l2, l1, h => by
  rw [List.foldl_cons, sStep_eq l1 s (h s (by simp)), uAL l2 (l1 ++ [s]) fun x hx => h x (by simp [hx])]
  simp
theorem qT (l : List Stp) (h : ∀ s ∈ l, s.right = true) : sAll l = (cnts l, capI (facP l)) := by
 have := uAL l [] h
 rw [List.nil_append] at this
 exact this
def lfac (m : List Int) (s : Stp) : Int := if s.sts then m.getD s.var.toNat 0 else m.getD s.var.toNat 0 + 1
def lfacs (m : List Int) (l : List Stp) : List Int := (l.filter Stp.lds).map (lfac m)
theorem tF (m : List Int) : ∀ (l : List Stp) (x : Int), 1 ≤ x → (∀ s ∈ l, s.lds = true → 1 ≤ lfac m s) → l.foldl (lStep m) (capI x) = capI (x * prodL (lfacs m l))
 | [], x, _, _ => by simp [lfacs, prodL]
 | s :: l, x, hx, h => by
  rw [List.foldl_cons]
  cases hl : s.lds with
  | false =>
   have e1 : lStep m (capI x) s = capI x := by simp [lStep, hl]
   have e2 : lfacs m (s :: l) = lfacs m l := by simp [lfacs, hl]
   rw [e1, e2]
   exact tF m l x hx fun y hy => h y (by simp [hy])
  | true =>
   have hf := h s (by simp) hl
   have e1 : lStep m (capI x) s = capI (x * lfac m s) := by
    rw [← aP hx hf]
    unfold lStep lfac
    cases hs : s.sts <;> simp [hl]
   have e2 : lfacs m (s :: l) = lfac m s :: lfacs m l := by simp [lfacs, hl]
   rw [e1, e2, tF m l _ (gZ hx hf) fun y hy => h y (by simp [hy]), prodL, Int.mul_assoc]
theorem oP {l : List Stp} (h : ∀ s ∈ l, s.right = true) (hs : s ∈ l) : 1 ≤ lfac (cnts l) s := by
 have hv := cI (h s hs)
 have g : ∀ v, (0 : Int) ≤ (cntS l v : Int) := fun v => by omega
 have c : s.sts = true → 1 ≤ cntS l s.var := fun h2 => by
  unfold cntS
  have : s ∈ l.filter fun x => x.sts && decide (x.var = s.var) := List.mem_filter.2 ⟨hs, by simp [h2]⟩
  exact List.length_pos_of_mem this
 unfold lfac
 rcases (by omega : s.var = 0 ∨ s.var = 1 ∨ s.var = 2 ∨ s.var = 3) with q | q | q | q
 all_goals
  rw [q] at c ⊢
  split
  ·rename_i h2
   have := c h2
   simp [cnts]
   omega
  ·simp [cnts]
   omega
def upto (n : Nat) : List Int := (List.range n).map fun i : Nat => (i : Int) + 1
theorem aL : ∀ n, prodL (upto n) = fac n
 | 0 => rfl
 | n + 1 => by
  unfold upto
  rw [List.range_succ, List.map_append, cQ]
  have := aL n
  unfold upto at this
  rw [this]
  simp [prodL, fac]
theorem upto_pos (n : Nat) : ∀ f ∈ upto n, 1 ≤ f := fun f hf => by
 obtain ⟨i, _, rfl⟩ := List.mem_map.1 hf
 omega
def facL (l : List Stp) : List Int := upto (cntS l 0) ++ (upto (cntS l 1) ++ (upto (cntS l 2) ++ upto (cntS l 3)))
def refWays (t : Ts) : Int := capI ((lfacs (cnts t.flatten) t.flatten).foldl mulC ((facL t.flatten).foldl mulC 1))
theorem refWays_eq (t : Ts) (h : ∀ s ∈ t.flatten, s.right = true) : refWays t = waysT t := by
 have hp : ∀ f ∈ facL t.flatten, 1 ≤ f := fun f hf => by
  unfold facL at hf
  simp only [List.mem_append] at hf
  rcases hf with h | h | h | h <;> exact upto_pos _ f h
 have hl : ∀ f ∈ lfacs (cnts t.flatten) t.flatten, 1 ≤ f := fun f hf => by
  obtain ⟨s, hs, rfl⟩ := List.mem_map.1 hf
  exact oP h (List.mem_filter.1 hs).1
 obtain ⟨e1, e2⟩ := tJ (facL t.flatten) 1 (by decide) hp
 obtain ⟨e3, _⟩ := tJ (lfacs (cnts t.flatten) t.flatten) _ e2 hl
 have hq := fV _ hl
 have ef : 1 * prodL (facL t.flatten) = facP t.flatten := by
  unfold facL facP
  rw [cQ, cQ, cQ, aL, aL, aL, aL, Int.one_mul]
  simp only [Int.mul_assoc]
 unfold refWays waysT
 rw [e3, ← aP e2 hq, e1, ef, aP (jO _) hq, qT _ h]
 exact (tF _ _ _ (jO _) fun s hs hl' => oP h hs).symm
set_option maxRecDepth 100000
section
open Go.RowKit Go.Lib
def pre (t : Ts) (i k : Nat) : List Stp := (t.take i).flatten ++ (t.getD i default).take k
theorem iW (t : Ts) : pre t 0 0 = [] := by simp [pre]
theorem mP (t : Ts) : pre t t.length 0 = t.flatten := by simp [pre]
theorem iX {i k : Nat} (h : k < (t.getD i default).length) : pre t i (k + 1) = pre t i k ++ [(t.getD i default).getD k default] := by
 unfold pre
 rw [vR _ default k h, List.append_assoc]
theorem iY {i : Nat} (h : i < t.length) : pre t (i + 1) 0 = pre t i (t.getD i default).length := by
 unfold pre
 rw [vR _ default i h]
 simp
theorem jN : ∀ (t : Ts), (∀ l ∈ t, l.length ≤ 16) → t.flatten.length ≤ 16 * t.length
 | [], _ => by simp
 | l :: t, h => by
  have := jN t fun x hx => h x (by simp [hx])
  have := h l (by simp)
  simp only [List.flatten_cons, List.length_append, List.length_cons]
  omega
theorem pre_rest {i : Nat} (h : i < t.length) (k : Nat) : ∃ r, t.flatten = pre t i k ++ r := by
 refine ⟨(t.getD i default).drop k ++ (t.drop (i + 1)).flatten, ?_⟩
 unfold pre
 have e1 : t = t.take i ++ t.getD i default :: t.drop (i + 1) := by
  rw [List.getD_eq_getElem?_getD, List.getElem?_eq_getElem h, Option.getD_some]
  rw [← List.drop_eq_getElem_cons h, List.take_append_drop]
 have e2 : t.flatten = (t.take i ++ t.getD i default :: t.drop (i + 1)).flatten := by rw [← e1]
 rw [e2, List.flatten_append, List.flatten_cons, List.append_assoc, ← List.append_assoc (List.take k _), List.take_append_drop]
theorem pre_len {i : Nat} (h : i < t.length) (k : Nat) (h16 : ∀ l ∈ t, l.length ≤ 16) (ht : t.length ≤ 4) : (pre t i k).length ≤ 64 := by
 obtain ⟨r, hr⟩ := pre_rest h k
 have := jN t h16
 rw [hr, List.length_append] at this
 omega
def rl (m : List Int) (n : Int) (s : Stp) : Int := if s.lds then mulC n (lfac m s) else n
theorem mM (m : List Int) : ∀ (l : List Stp) (n : Int), l.foldl (rl m) n = (lfacs m l).foldl mulC n
 | [], n => rfl
 | s :: l, n => by
  rw [List.foldl_cons, mM m l]
  cases hl : s.lds with
  | false =>
   rw [show lfacs m (s :: l) = lfacs m l by simp [lfacs, hl], show rl m n s = n by simp [rl, hl]]
  | true =>
   rw [show lfacs m (s :: l) = lfac m s :: lfacs m l by simp [lfacs, hl], show rl m n s = mulC n (lfac m s) by simp [rl, hl]]
   rfl
theorem oJ {n f : Int} (h : 10000 < n) : mulC n f = n := if_neg (by omega)
theorem rl_big {n : Int} (h : 10000 < n) : rl m n s = n := by unfold rl; rw [oJ h]; split <;> rfl
theorem oZ : ∀ (l : List Int) {n : Int}, 10000 < n → l.foldl mulC n = n
 | [], n, _ => rfl
 | f :: l, n, h => by rw [List.foldl_cons, oJ h]; exact oZ l h
theorem lB (m : List Int) : ∀ (l : List Stp) {n : Int}, 10000 < n → l.foldl (rl m) n = n
 | [], n, _ => rfl
 | f :: l, n, h => by rw [List.foldl_cons, rl_big h]; exact lB m l h
theorem mV {n f : Int} (h0 : 0 ≤ n) (h1 : n ≤ 1000000) (g0 : 0 ≤ f) (g1 : f ≤ 100) : 0 ≤ mulC n f ∧ mulC n f ≤ 1000000 := by
 by_cases h : n ≤ 10000
 ·have e : mulC n f = n * f := if_pos h
  rw [e]
  refine ⟨Int.mul_nonneg h0 g0, ?_⟩
  have := Int.mul_le_mul h g1 g0 (by decide)
  omega
 ·have e : mulC n f = n := if_neg h
  rw [e]; exact ⟨h0, h1⟩
theorem gB : ∀ (l : List Int) {n : Int}, 0 ≤ n → n ≤ 1000000 → (∀ f ∈ l, 0 ≤ f ∧ f ≤ 100) → 0 ≤ l.foldl mulC n ∧ l.foldl mulC n ≤ 1000000
 | [], n, h0, h1, _ => ⟨h0, h1⟩
 | f :: l, n, h0, h1, h => by
  have g := h f (by simp)
  have := mV h0 h1 g.1 g.2
  exact gB l this.1 this.2 fun x hx => h x (by simp [hx])
def preV (m : List Int) (v : Nat) : List Int := ((List.range v).map fun u => upto (m.getD u 0).toNat).flatten
theorem aM (m : List Int) (v : Nat) : preV m (v + 1) = preV m v ++ upto (m.getD v 0).toNat := by
 unfold preV
 rw [List.range_succ]; simp
theorem preV_four (l : List Stp) : preV (cnts l) 4 = facL l := by
 unfold facL
 rw [aM, aM, aM, aM]
 simp [preV, cnts]
theorem kQ (n : Nat) : upto (n + 1) = upto n ++ [(n : Int) + 1] := by
 unfold upto
 rw [List.range_succ]; simp
theorem iK {k : Nat} : ∀ {n : Nat}, k ≤ n → ∃ r, upto n = upto k ++ r
 | 0, h => ⟨[], by rw [show k = 0 by omega]; simp⟩
 | n + 1, h => by
  by_cases e : k = n + 1
  ·exact ⟨[], by rw [e]; simp⟩
  ·obtain ⟨r, hr⟩ := iK (k := k) (n := n) (by omega)
   exact ⟨r ++ [(n : Int) + 1], by rw [kQ, hr, List.append_assoc]⟩
theorem qM {n : Nat} (h : n ≤ 64) : ∀ f ∈ upto n, 0 ≤ f ∧ f ≤ 100 := fun f hf => by
 obtain ⟨i, hi, rfl⟩ := List.mem_map.1 hf
 have := List.mem_range.1 hi
 omega
theorem preV_bd (h : ∀ i, 0 ≤ m.getD i 0 ∧ m.getD i 0 ≤ ((64 : Nat) : Int)) (v : Nat) : ∀ f ∈ preV m v, 0 ≤ f ∧ f ≤ 100 := fun f hf => by
 unfold preV at hf
 obtain ⟨x, hx, hf⟩ := List.mem_flatten.1 hf
 obtain ⟨u, _, rfl⟩ := List.mem_map.1 hx
 exact qM (by have := h u; omega) f hf
theorem lfacs_bd (h : ∀ i, 0 ≤ m.getD i 0 ∧ m.getD i 0 ≤ ((64 : Nat) : Int)) (l : List Stp) : ∀ f ∈ lfacs m l, 0 ≤ f ∧ f ≤ 100 := fun f hf => by
 obtain ⟨s, _, rfl⟩ := List.mem_map.1 hf
 have := h s.var.toNat
 unfold lfac
 split <;> omega
def wn (m : List Int) (v k : Nat) : Int := (preV m v ++ upto k).foldl mulC 1
theorem wn_succ (m : List Int) (v k : Nat) : wn m v (k + 1) = mulC (wn m v k) ((k : Int) + 1) := by
 unfold wn
 rw [kQ, ← List.append_assoc, List.foldl_append]; rfl
theorem wn_next {v k : Nat} (h : k ≤ (m.getD v 0).toNat) (hk : k = (m.getD v 0).toNat ∨ 10000 < wn m v k) : wn m (v + 1) 0 = wn m v k := by
 obtain ⟨r, hr⟩ := iK h
 have e : wn m (v + 1) 0 = r.foldl mulC (wn m v k) := by
  unfold wn
  rw [aM, hr, ← List.append_assoc, ← List.foldl_append]
  simp [upto]
 rw [e]
 rcases hk with hk | hk
 ·have : r = [] := by
   have h2 := congrArg List.length hr
   rw [← hk] at h2
   simp [upto] at h2
   exact h2
  rw [this]; rfl
 ·exact oZ r hk
theorem uAI (h : ∀ i, 0 ≤ m.getD i 0 ∧ m.getD i 0 ≤ ((64 : Nat) : Int)) {v k : Nat} (hk : k ≤ 64) : 0 ≤ wn m v k ∧ wn m v k ≤ 1000000 := by
 refine gB _ (by decide) (by decide) fun f hf => ?_
 rcases List.mem_append.1 hf with hf | hf
 ·exact preV_bd h v f hf
 ·exact qM hk f hf
def rn (m : List Int) (n : Int) (l : List Stp) : Int := l.foldl (rl m) n
theorem uAM (h : ∀ i, 0 ≤ m.getD i 0 ∧ m.getD i 0 ≤ ((64 : Nat) : Int)) {n : Int} (h0 : 0 ≤ n) (h1 : n ≤ 1000000) (l : List Stp) : 0 ≤ rn m n l ∧ rn m n l ≤ 1000000 := by
 unfold rn
 rw [mM]
 exact gB _ h0 h1 (lfacs_bd h l)
theorem rn_rest {n : Int} {i k : Nat} (hi : i < t.length) (hk : k ≤ (t.getD i default).length) (hb : k = (t.getD i default).length ∨ 10000 < rn m n (pre t i k)) : rn m n (pre t (i + 1) 0) = rn m n (pre t i k) := by
 rw [iY hi]
 rcases hb with hb | hb
 ·rw [hb]
 ·have e : pre t i (t.getD i default).length = pre t i k ++ (t.getD i default).drop k := by
   unfold pre
   rw [List.append_assoc, List.take_append_drop, List.take_length]
  unfold rn at hb ⊢
  rw [e, List.foldl_append, lB m _ hb]
theorem waysT_rn (hr : ∀ s ∈ t.flatten, s.right = true) (hm : m = (sAll t.flatten).1) : capI (rn m (wn m 4 0) t.flatten) = waysT t := by
 rw [← refWays_eq t hr]
 have e : m = cnts t.flatten := by rw [hm, qT _ hr]
 unfold refWays rn wn
 rw [mM, e, preV_four]
 simp [upto]
set_option maxHeartbeats 4000000 in
theorem qY (t : Ts) (ht : t.length ≤ 4) (h16 : ∀ l ∈ t, l.length ≤ 16) (hr : ∀ l ∈ t, ∀ s ∈ l, s.right = true) : Pure E.P 52 [testOV t] (.int .i64 (waysT t)) := by
 have f1 : Frozen 1 := ⟨trivial⟩
 have hrf : ∀ s ∈ t.flatten, s.right = true := fun s hs => by obtain ⟨l, hl, hs⟩ := List.mem_flatten.1 hs; exact hr l hl s hs
 have hS : ∀ l : List Stp, l.length ≤ 64 → (sAll l).1.length = 4 ∧ ∀ i, 0 ≤ (sAll l).1.getD i 0 ∧ (sAll l).1.getD i 0 ≤ ((64 : Nat) : Int) := fun l hl => by
  obtain ⟨h1, h2, _, _⟩ := SOk.all l 0 ([0, 0, 0, 0], 1) ⟨rfl, fun i => by rcases i with _ | _ | _ | _ | i <;> simp, by decide, by decide⟩ (by omega)
  exact ⟨h1, fun i => ⟨(h2 i).1, Int.le_trans (h2 i).2 (by omega)⟩⟩
 refine fnA Tryz.func52 Tryz.ntmps52 ?_
 refine run ?_; refine aoR fun _ => ?_
 refine run ?_; refine aoR fun _ => ?_
 refine run ?_; refine aoR fun _ => ?_
 refine run ?_; rotate_left
 rename_i v0 v1
 refine vA (X := Nat) (fun i => tmL [(1, .d (.pt [.sl 1 (t.map catRowT)] 0)), (3, .lo 3 (v0, 0) 4 0 0), (4, .int .i64 i)]) (fun i => stL [(3, ((v0, 0), ⟨4, [manyO (sAll (pre t i 0)).1]⟩))]) (fun i => i ≤ t.length) (fun i => t.length - i) 0 (Nat.zero_le _) leP (by rw [iW]; exact leP) ?_
 intro i hi
 by_cases hlt : i < t.length
 ·have hmem : t.getD (i : Int).toNat default ∈ t := wP (k := (i : Int).toNat) (by simpa using hlt)
  have hl16 := h16 _ hmem
  have eN : ∀ k, pre t i k = (t.take i).flatten ++ (t.getD (i : Int).toNat default).take k := fun k => rfl
  refine run ?_; refine aoR fun _ => ?_
  refine run ?_; refine cnd ?_ ?_
  refine uE fun _ => ?_; try omega
  refine run ?_; refine aoR fun _ => ?_
  refine run ?_; rotate_left
  refine uF fun _ => ?_; try omega
  refine vA (X := Nat) (fun k => tmL [(1, .d (.pt [.sl 1 (t.map catRowT)] 0)), (3, .lo 3 (v0, 0) 4 0 0), (4, .int .i64 i), (5, .int .i64 k)]) (fun k => stL [(3, ((v0, 0), ⟨4, [manyO (sAll (pre t i k)).1]⟩))]) (fun k => k ≤ (t.getD (i : Int).toNat default).length) (fun k => (t.getD (i : Int).toNat default).length - k) 0 (Nat.zero_le _) leP leP ?_
  intro k hk
  by_cases hlk : k < (t.getD (i : Int).toNat default).length
  ·have hs := hr _ hmem _ (wP (l := t.getD (i : Int).toNat default) (d := default) (k := (k : Int).toNat) (by simpa using hlk))
   have hv := cI hs
   have c := bP ((t.getD (i : Int).toNat default).getD (k : Int).toNat default)
   have hst : sAll (pre t i (k + 1)) = sStep (sAll (pre t i k)) ((t.getD (i : Int).toNat default).getD (k : Int).toNat default) := by
    rw [iX (by simpa using hlk)]; unfold sAll; rw [List.foldl_append]; rfl
   obtain ⟨g1, g2⟩ := hS _ (pre_len hlt k h16 ht)
   obtain ⟨p, hp⟩ : ∃ p, p = sAll (pre t i k) := ⟨_, rfl⟩
   rw [← hp] at hst g1 g2 ⊢
   cases hb : ((t.getD (i : Int).toNat default).getD (k : Int).toNat default).sts with
   | false =>
    rw [hb] at c
    have e : sStep p ((t.getD (i : Int).toNat default).getD (k : Int).toNat default) = p := by unfold sStep; rw [hb]; rfl
    rw [e] at hst
    refine run ?_; refine aoR fun _ => ?_
    refine run ?_; refine cnd ?_ ?_
    refine uE fun _ => ?_; try omega
    refine run ?_; refine aoR fun _ => ?_
    refine run ?_
    apply uA; exact rfl; exact .fn _ _ _; exact rfl; exact c
    refine run ?_; refine cnd ?_ ?_
    exact vS
    refine vH ?_; refine run ?_; refine aoR fun _ => ?_
    refine run ?_; rotate_left
    refine uF fun _ => ?_; try omega
    refine uU (k + 1) (by omega) (by omega) leP (by rw [hst]; exact leP)
   | true =>
    rw [hb] at c
    have e : (sStep p ((t.getD (i : Int).toNat default).getD (k : Int).toNat default)).1 = p.1.set ((t.getD (i : Int).toNat default).getD (k : Int).toNat default).var.toNat (p.1.getD ((t.getD (i : Int).toNat default).getD (k : Int).toNat default).var.toNat 0 + 1) := by unfold sStep; rw [hb]; rfl
    have g3 := g2 ((t.getD (i : Int).toNat default).getD (k : Int).toNat default).var.toNat
    refine run ?_; refine aoR fun _ => ?_
    refine run ?_; refine cnd ?_ ?_
    refine uE fun _ => ?_; try omega
    refine run ?_; refine aoR fun _ => ?_
    refine run ?_
    apply uA; exact rfl; exact .fn _ _ _; exact rfl; exact c
    refine run ?_; refine cnd ?_ ?_; refine uJ ?_; refine aoR fun _ => ?_
    refine run ?_
    apply vZ; exact rfl; exact rfl; exact rfl; exact rfl; exact rfl; (rw [show te3.size = 1 from rfl, Nat.mul_one, Nat.zero_add]; exact uQ (f := oneO) (by omega) 0)
    refine run ?_
    apply fS; exact rfl; exact rfl; exact rfl; exact rfl; exact rfl; exact rfl; exact rfl; (show _ + _ * 1 + 1 ≤ List.length (List.map oneO _); (rw [List.length_map]; omega))
    refine run ?_; refine aoR fun _ => ?_
    refine run ?_; rotate_left
    exact uM
    refine uF fun _ => ?_; try omega
    refine uU (k + 1) (by omega) (by omega) leP ?_
    rw [hst, e]
    refine uN rfl ?_ (uL _)
    show [setAt (p.1.map oneO) (0 + ((t.getD (i : Int).toNat default).getD (k : Int).toNat default).var.toNat * 1) [oneO _]] = [manyO _]
    rw [Nat.mul_one, Nat.zero_add, kY _ _ _ _ (by omega)]; rfl
  ·have hkl : k = (t.getD (i : Int).toNat default).length := by omega
   have e1 := iY hlt
   refine run ?_; refine aoR fun _ => ?_
   refine run ?_; refine cnd ?_ ?_
   refine uE fun _ => ?_; try omega
   refine uF fun _ => ?_; try omega
   refine run ?_; refine aoR fun _ => ?_
   refine run ?_; rotate_left
   refine uU (i + 1) (by omega) (by omega) leP (by rw [e1, hkl]; exact leP)
 ·have hil : i = t.length := by omega
  subst hil
  rw [mP]
  obtain ⟨m, hm⟩ : ∃ m, m = (sAll t.flatten).1 := ⟨_, rfl⟩
  have hfl := jN t h16
  obtain ⟨g1, g2⟩ := hS t.flatten (by omega)
  have hW := waysT_rn hrf hm
  rw [← hm] at g1 g2 ⊢
  refine run ?_; refine aoR fun _ => ?_
  refine run ?_; refine cnd ?_ ?_
  refine uE fun _ => ?_; try omega
  refine uF fun _ => ?_; try omega
  refine run ?_; refine aoR fun _ => ?_
  refine run ?_; refine aoR fun _ => ?_
  refine run ?_; rotate_left
  refine vA (X := Nat) (fun v => tmL [(1, .d (.pt [.sl 1 (t.map catRowT)] 0)), (3, .lo 3 (v0, 0) 4 0 0), (6, .int .i64 (wn m v 0)), (7, .int .i64 v)]) (fun v => stL [(3, ((v0, 0), ⟨4, [manyO m]⟩))]) (fun v => v ≤ 4) (fun v => 4 - v) 0 (Nat.zero_le _) leP leP ?_
  intro v hv
  by_cases hv4 : v < 4
  ·have gv := g2 v
   refine run ?_; refine aoR fun _ => ?_
   refine run ?_; refine cnd ?_ ?_
   refine uE fun _ => ?_; try omega
   refine run ?_; refine aoR fun _ => ?_
   refine run ?_; rotate_left
   refine uF fun _ => ?_; try omega
   refine vA (X := Nat) (fun k => tmL [(1, .d (.pt [.sl 1 (t.map catRowT)] 0)), (3, .lo 3 (v0, 0) 4 0 0), (6, .int .i64 (wn m v k)), (7, .int .i64 v), (8, .int .i64 ((k : Int) + 1))]) (fun k => stL [(3, ((v0, 0), ⟨4, [manyO m]⟩))]) (fun k => k ≤ (m.getD (v : Int).toNat 0).toNat) (fun k => (m.getD (v : Int).toNat 0).toNat - k) 0 (Nat.zero_le _) leP leP ?_
   intro k hk
   obtain ⟨b0, b1⟩ := uAI g2 (v := v) (k := k) (by rw [Int.toNat_natCast] at hk; omega)
   have es := wn_succ m v k
   have en := wn_next (m := m) (v := v) (k := k) (by rw [Int.toNat_natCast] at hk; exact hk)
   have gv' := g2 (v : Int).toNat
   obtain ⟨n, hn⟩ : ∃ n, n = wn m v k := ⟨_, rfl⟩
   rw [← hn] at b0 b1 es en ⊢
   by_cases h1 : (k : Int) + 1 ≤ m.getD (v : Int).toNat 0
   ·by_cases h2 : n ≤ 10000
    ·have hmu : 0 ≤ n * ((k : Int) + 1) ∧ n * ((k : Int) + 1) ≤ 1000000 := by
      have := mV b0 b1 (show 0 ≤ (k : Int) + 1 by omega) (by omega)
      rwa [show mulC n ((k : Int) + 1) = n * ((k : Int) + 1) from if_pos h2] at this
     rw [show mulC n ((k : Int) + 1) = n * ((k : Int) + 1) from if_pos h2] at es
     refine run ?_; refine aoR fun _ => ?_
     refine run ?_
     apply vZ; exact rfl; exact rfl; exact rfl; exact rfl; exact rfl; (rw [show te3.size = 1 from rfl, Nat.mul_one, Nat.zero_add]; exact uQ (f := oneO) (by omega) 0)
     refine run ?_; refine cnd ?_ ?_; refine wY ?_
     iterate 2 refine uE fun _ => ?_; try omega
     refine run ?_; refine aoR fun _ => ?_
     refine run ?_; refine aoR fun _ => ?_
     refine run ?_; rotate_left
     refine wZ (fun hc_ => ?_); (try simp only [nrm] at hc_)
     refine run ?_; refine aoR fun _ => ?_
     refine run ?_; rotate_left
     all_goals first | exact uU (k + 1) (by omega) (by omega) (by rw [es]; exact leP) leP | (exfalso; omega)
    ·refine run ?_
     refine aoR fun _ => ?_; refine run ?_
     apply vZ; exact rfl; exact rfl; exact rfl; exact rfl; exact rfl; (rw [show te3.size = 1 from rfl, Nat.mul_one, Nat.zero_add]; exact uQ (f := oneO) (by omega) 0)
     refine run ?_; refine cnd ?_ ?_; refine wY ?_
     iterate 2 refine uE fun _ => ?_; try omega
     refine wZ (fun hc_ => ?_); (try simp only [nrm] at hc_)
     refine run ?_; refine aoR fun _ => ?_
     refine run ?_; rotate_left
     all_goals first | exact uU (v + 1) (by omega) (by omega) (by rw [en (Or.inr (by omega))]; exact leP) leP | (exfalso; omega)
   ·have ek : k = (m.getD v 0).toNat := by rw [Int.toNat_natCast] at hk h1; omega
    refine run ?_; refine aoR fun _ => ?_
    refine run ?_
    apply vZ; exact rfl; exact rfl; exact rfl; exact rfl; exact rfl; (rw [show te3.size = 1 from rfl, Nat.mul_one, Nat.zero_add]; exact uQ (f := oneO) (by omega) 0)
    refine run ?_; refine cnd ?_ ?_; refine wY ?_
    refine uE fun _ => ?_; try omega
    refine wZ (fun hc_ => ?_); (try simp only [nrm] at hc_)
    refine run ?_; refine aoR fun _ => ?_
    refine run ?_; rotate_left
    all_goals first | exact uU (v + 1) (by omega) (by omega) (by rw [en (Or.inl ek)]; exact leP) leP | (exfalso; omega)
  ·have h44 : v = 4 := by omega
   subst h44
   obtain ⟨N, hN⟩ : ∃ N, N = wn m 4 0 := ⟨_, rfl⟩
   have hb := uAI g2 (v := 4) (k := 0) (by omega)
   rw [← hN] at hW hb ⊢
   refine run ?_; refine aoR fun _ => ?_
   refine run ?_; refine cnd ?_ ?_
   refine uE fun _ => ?_; try omega
   refine uF fun _ => ?_; try omega
   refine run ?_; refine aoR fun _ => ?_
   refine run ?_; rotate_left
   clear hv4 hv
   refine vA (X := Nat) (fun i => tmL [(1, .d (.pt [.sl 1 (t.map catRowT)] 0)), (3, .lo 3 (v0, 0) 4 0 0), (6, .int .i64 (rn m N (pre t i 0))), (9, .int .i64 i)]) (fun _ => stL [(3, ((v0, 0), ⟨4, [manyO m]⟩))]) (fun i => i ≤ t.length) (fun i => t.length - i) 0 (Nat.zero_le _) (by rw [iW]; exact leP) leP ?_
   intro i hi
   by_cases hlt : i < t.length
   ·have hmem : t.getD (i : Int).toNat default ∈ t := wP (k := (i : Int).toNat) (by simpa using hlt)
    have hl16 := h16 _ hmem
    refine run ?_; refine aoR fun _ => ?_
    refine run ?_; refine cnd ?_ ?_
    refine uE fun _ => ?_; try omega
    refine run ?_; refine aoR fun _ => ?_
    refine run ?_; rotate_left
    refine uF fun _ => ?_; try omega
    refine vA (X := Nat) (fun k => tmL [(1, .d (.pt [.sl 1 (t.map catRowT)] 0)), (3, .lo 3 (v0, 0) 4 0 0), (6, .int .i64 (rn m N (pre t i k))), (9, .int .i64 i), (10, .int .i64 k)]) (fun _ => stL [(3, ((v0, 0), ⟨4, [manyO m]⟩))]) (fun k => k ≤ (t.getD (i : Int).toNat default).length) (fun k => (t.getD (i : Int).toNat default).length - k) 0 (Nat.zero_le _) leP leP ?_
    intro k hk
    obtain ⟨b0, b1⟩ := uAM g2 hb.1 hb.2 (pre t i k)
    have er := rn_rest (m := m) (n := N) hlt hk
    by_cases hlk : k < (t.getD (i : Int).toNat default).length
    ·have hs := hr _ hmem _ (wP (l := t.getD (i : Int).toNat default) (d := default) (k := (k : Int).toNat) (by simpa using hlk))
     have hv := cI hs
     have c2 := bP ((t.getD (i : Int).toNat default).getD (k : Int).toNat default)
     have c3 := dP ((t.getD (i : Int).toNat default).getD (k : Int).toNat default)
     have g3 := g2 ((t.getD (i : Int).toNat default).getD (k : Int).toNat default).var.toNat
     have hst : rn m N (pre t i (k + 1)) = rl m (rn m N (pre t i k)) ((t.getD (i : Int).toNat default).getD (k : Int).toNat default) := by
      rw [iX (by simpa using hlk)]; unfold rn; rw [List.foldl_append]; rfl
     obtain ⟨n, hn⟩ : ∃ n, n = rn m N (pre t i k) := ⟨_, rfl⟩
     rw [← hn] at hst b0 b1 er ⊢
     by_cases h2 : n ≤ 10000
     ·have hmu : ∀ f : Int, 0 ≤ f → f ≤ 100 → 0 ≤ n * f ∧ n * f ≤ 1000000 := fun f h0 h1 => by
       have := mV b0 b1 h0 h1
       rwa [show mulC n f = n * f from if_pos h2] at this
      have hm0 := hmu (m.getD ((t.getD (i : Int).toNat default).getD (k : Int).toNat default).var.toNat 0) (by omega) (by omega)
      have hm1 := hmu (m.getD ((t.getD (i : Int).toNat default).getD (k : Int).toNat default).var.toNat 0 + 1) (by omega) (by omega)
      unfold rl mulC lfac at hst
      simp only [if_pos h2] at hst
      cases hl1 : ((t.getD (i : Int).toNat default).getD (k : Int).toNat default).lds with
      | false =>
       rw [hl1] at c3 hst
       simp only [Bool.false_eq_true, if_false, if_true] at hst
       refine run ?_; refine aoR fun _ => ?_
       refine run ?_; refine cnd ?_ ?_; refine wY ?_
       iterate 2 refine uE fun _ => ?_; try omega
       refine run ?_; refine aoR fun _ => ?_
       refine run ?_; refine aoR fun _ => ?_
       refine run ?_
       apply uA; exact rfl; exact .fn _ _ _; exact rfl; exact c3
       refine run ?_; refine cnd ?_ ?_
       exact vS
       refine vH ?_; refine run ?_; refine aoR fun _ => ?_
       refine run ?_
       apply uA; exact rfl; exact .fn _ _ _; exact rfl; exact c3
       refine run ?_; refine cnd ?_ ?_
       exact vS
       refine vH ?_; refine run ?_; refine aoR fun _ => ?_
       refine run ?_; rotate_left
       refine wZ (fun hc_ => ?_); (try simp only [nrm] at hc_)
       refine run ?_; refine aoR fun _ => ?_
       refine run ?_; rotate_left
       all_goals first | exact (qO ‹_›).elim | exact uU (k + 1) (by omega) (by omega) (by rw [hst]; exact leP) leP | (exfalso; omega)
      | true =>
       rw [hl1] at c3 hst
       simp only [Bool.false_eq_true, if_false, if_true] at hst
       cases hs1 : ((t.getD (i : Int).toNat default).getD (k : Int).toNat default).sts with
       | true =>
        rw [hs1] at c2 hst
        simp only [Bool.false_eq_true, if_false, if_true] at hst
        refine run ?_; refine aoR fun _ => ?_
        refine run ?_; refine cnd ?_ ?_; refine wY ?_
        iterate 2 refine uE fun _ => ?_; try omega
        refine run ?_; refine aoR fun _ => ?_
        refine run ?_; refine aoR fun _ => ?_
        refine run ?_
        apply uA; exact rfl; exact .fn _ _ _; exact rfl; exact c3
        refine run ?_
        apply spT; exact rfl
        intro hc_
        have hp_ := hc_; try simp only [nrm] at hp_
        apply uV; exact evm; exact .fn _ _ _; exact wM; exact c2
        refine run ?_; refine cnd ?_ ?_; refine wY ?_
        iterate 2 refine uJ ?_
        refine aoR fun _ => ?_; refine run ?_
        apply vZ; exact rfl; exact rfl; exact rfl; exact rfl; exact rfl; (rw [show te3.size = 1 from rfl, Nat.mul_one, Nat.zero_add]; exact uQ (f := oneO) (by omega) 0)
        refine run ?_; refine aoR fun _ => ?_
        refine run ?_; rotate_left
        refine wZ (fun hc_ => ?_); (try simp only [nrm] at hc_)
        refine run ?_; refine aoR fun _ => ?_
        refine run ?_
        apply uA; exact rfl; exact .fn _ _ _; exact rfl; exact c3
        refine run ?_; refine cnd ?_ ?_; refine uJ ?_; refine aoR fun _ => ?_
        refine run ?_
        apply vZ; exact rfl; exact rfl; exact rfl; exact rfl; exact rfl; (rw [show te3.size = 1 from rfl, Nat.mul_one, Nat.zero_add]; exact uQ (f := oneO) (by omega) 0)
        refine run ?_; refine aoR fun _ => ?_
        refine run ?_; rotate_left
        exact uM
        refine wZ (fun hc_ => ?_); (try simp only [nrm] at hc_)
        refine run ?_; refine aoR fun _ => ?_
        refine run ?_; rotate_left
        all_goals first | exact (qO ‹_›).elim | exact uU (k + 1) (by omega) (by omega) (by rw [hst]; exact leP) leP | (exfalso; omega)
       | false =>
        rw [hs1] at c2 hst
        simp only [Bool.false_eq_true, if_false, if_true] at hst
        refine run ?_; refine aoR fun _ => ?_
        refine run ?_; refine cnd ?_ ?_; refine wY ?_
        iterate 2 refine uE fun _ => ?_; try omega
        refine run ?_; refine aoR fun _ => ?_
        refine run ?_; refine aoR fun _ => ?_
        refine run ?_
        apply uA; exact rfl; exact .fn _ _ _; exact rfl; exact c3
        refine run ?_
        apply spT; exact rfl
        intro hc_
        have hp_ := hc_; try simp only [nrm] at hp_
        apply uV; exact evm; exact .fn _ _ _; exact wM; exact c2
        refine run ?_; refine cnd ?_ ?_; refine wY ?_; refine uJ ?_
        exact vS
        refine wZ (fun hc_ => ?_); (try simp only [nrm] at hc_)
        refine run ?_; refine aoR fun _ => ?_
        refine run ?_
        apply uA; exact rfl; exact .fn _ _ _; exact rfl; exact c3
        refine run ?_; refine cnd ?_ ?_; refine uJ ?_; refine aoR fun _ => ?_
        refine run ?_
        apply vZ; exact rfl; exact rfl; exact rfl; exact rfl; exact rfl; (rw [show te3.size = 1 from rfl, Nat.mul_one, Nat.zero_add]; exact uQ (f := oneO) (by omega) 0)
        refine run ?_; refine aoR fun _ => ?_
        refine run ?_; rotate_left
        exact uM
        refine wZ (fun hc_ => ?_); (try simp only [nrm] at hc_)
        refine run ?_; refine aoR fun _ => ?_
        refine run ?_; rotate_left
        all_goals first | exact (qO ‹_›).elim | exact uU (k + 1) (by omega) (by omega) (by rw [hst]; exact leP) leP | (exfalso; omega)
     ·refine run ?_
      refine aoR fun _ => ?_; refine run ?_
      refine cnd ?_ ?_; refine wY ?_
      iterate 2 refine uE fun _ => ?_; try omega
      refine wZ (fun hc_ => ?_); (try simp only [nrm] at hc_)
      refine run ?_; refine aoR fun _ => ?_
      refine run ?_; rotate_left
      all_goals first | exact uU (i + 1) (by omega) (by omega) (by rw [er (Or.inr (by omega))]; exact leP) leP | (exfalso; omega)
    ·have ekl : k = (t.getD i default).length := by rw [Int.toNat_natCast] at hk hlk; omega
     refine run ?_; refine aoR fun _ => ?_
     refine run ?_; refine cnd ?_ ?_; refine wY ?_
     refine uE fun _ => ?_; try omega
     refine wZ (fun hc_ => ?_); (try simp only [nrm] at hc_)
     refine run ?_; refine aoR fun _ => ?_
     refine run ?_; rotate_left
     all_goals first | exact uU (i + 1) (by omega) (by omega) (by rw [er (Or.inl ekl)]; exact leP) leP | (exfalso; omega)
   ·have hil : i = t.length := by omega
    subst hil
    rw [mP]
    have b := uAM g2 hb.1 hb.2 t.flatten
    obtain ⟨n, hn⟩ : ∃ n, n = rn m N t.flatten := ⟨_, rfl⟩
    rw [← hn] at hW b ⊢
    refine run ?_; refine aoR fun _ => ?_
    refine run ?_; refine cnd ?_ ?_
    refine uE fun _ => ?_; try omega
    refine uF fun _ => ?_; try omega
    refine run ?_; refine aoR fun _ => ?_
    refine run ?_; rotate_left
    exact xL rfl hW
end
set_option maxRecDepth 100000
section
open Go.RowKit Go.Lib
theorem pre_acc {i k : Nat} (h : k < (t.getD i default).length) : accs (pre t i (k + 1)) = accs (pre t i k) + (if ((t.getD i default).getD k default).acc then 1 else 0) := by
 rw [iX h, cA, pN]
theorem pK (h0 : ¬ (t.length < 1 ∨ 4 < t.length)) {i : Nat} (hi : i < t.length) (h : threadOk (t.getD i default) = false) : checkT t = 2 := by
 have hno : t.all threadOk = false := by
  rw [List.all_eq_false]
  exact ⟨t.getD i default, wP hi, by rw [h]; decide⟩
 unfold checkT
 rw [if_neg h0, if_pos hno]
set_option maxHeartbeats 4000000 in
theorem rCheck_p (t : Ts) : Pure E.P 22 [testOV t] (.int .i64 (checkT t)) := by
 have f1 : Frozen 1 := ⟨trivial⟩
 have cw := xZ t.length 1 4
 refine fnA Tryz.func22 Tryz.ntmps22 ?_
 by_cases h0 : t.length < 1 ∨ 4 < t.length
 ·have e : checkT t = 2 := by unfold checkT; rw [if_pos h0]
  have ew : inR t.length 1 4 = false := by
   unfold inR
   rcases h0 with h | h
   ·rw [decide_eq_false (by omega : ¬ (1 : Int) ≤ t.length)]; rfl
   ·rw [decide_eq_false (by omega : ¬ (t.length : Int) ≤ 4)]; simp
  rw [ew] at cw
  rw [e]
  refine run ?_; refine aoR fun _ => ?_
  refine run ?_; refine aoR fun _ => ?_
  refine run ?_
  apply uA; exact rfl; exact .fn _ _ _; exact rfl; exact cw
  refine run ?_; refine cnd ?_ ?_; refine yY ?_; refine vH ?_; refine run ?_; refine aoR fun _ => ?_
  refine run ?_; rotate_left
  refine wN ?_
  exact vS
  all_goals exact xL rfl rfl
 ·have hn1 : 1 ≤ t.length := by omega
  have hn4 : t.length ≤ 4 := by omega
  have ew : inR t.length 1 4 = true := by
   unfold inR
   rw [decide_eq_true (by omega : (1 : Int) ≤ t.length), decide_eq_true (by omega : (t.length : Int) ≤ 4)]; rfl
  rw [ew] at cw
  refine run ?_; refine aoR fun _ => ?_
  refine run ?_; refine aoR fun _ => ?_
  refine run ?_
  apply uA; exact rfl; exact .fn _ _ _; exact rfl; exact cw
  refine run ?_; refine cnd ?_ ?_; refine yY ?_
  exact uM
  refine wN ?_; refine uJ ?_; refine run ?_; refine aoR fun _ => ?_
  refine run ?_; refine aoR fun _ => ?_
  refine run ?_; rotate_left
  refine vA (X := Nat) (fun i => tmL [(1, .d (.pt [.sl 1 (t.map catRowT)] 0)), (3, .int .i64 (accs (pre t i 0))), (4, .int .i64 i)]) (fun _ => stL []) (fun i => i ≤ t.length ∧ (t.take i).all threadOk = true) (fun i => t.length - i) 0 ⟨Nat.zero_le _, rfl⟩ (by rw [iW]; exact leP) leP ?_
  rintro i ⟨hi, hok⟩
  have hfl : i < 4 → (t.take i).flatten.length ≤ 48 := fun h4 => by
   have := bT (t.take i) 16 fun x hx => by
    have h := List.all_eq_true.1 hok x hx
    unfold threadOk at h
    simp only [Bool.and_eq_true, decide_eq_true_eq] at h
    exact h.1
   rw [List.length_take] at this; omega
  by_cases hlt : i < t.length
  ·by_cases h16 : 16 < (t.getD (i : Int).toNat default).length
   ·rw [pK h0 hlt (by unfold threadOk; rw [decide_eq_false (by rw [Int.toNat_natCast] at h16; omega)]; rfl)]
    refine run ?_; refine aoR fun _ => ?_
    refine run ?_; refine cnd ?_ ?_
    refine uE fun _ => ?_; try omega
    refine run ?_; refine aoR fun _ => ?_
    refine run ?_; refine cnd ?_ ?_
    refine uE fun _ => ?_; try omega
    refine run ?_; refine aoR fun _ => ?_
    refine run ?_; rotate_left
    iterate 2 refine uF fun _ => ?_; try omega
    all_goals first | exact xL rfl rfl | (exfalso; omega)
   ·refine run ?_
    refine aoR fun _ => ?_; refine run ?_
    refine cnd ?_ ?_
    refine uE fun _ => ?_; try omega
    refine run ?_; refine aoR fun _ => ?_
    refine run ?_; refine cnd ?_ ?_
    refine uE fun _ => ?_; try omega
    refine uF fun _ => ?_; try omega
    refine run ?_; refine aoR fun _ => ?_
    refine run ?_; rotate_left
    refine uF fun _ => ?_; try omega
    all_goals try omega
    refine vA (X := Nat) (fun k => tmL [(1, .d (.pt [.sl 1 (t.map catRowT)] 0)), (3, .int .i64 (accs (pre t i k))), (4, .int .i64 i), (5, .int .i64 k)]) (fun _ => stL []) (fun k => k ≤ (t.getD (i : Int).toNat default).length ∧ ((t.getD (i : Int).toNat default).take k).all Stp.right = true) (fun k => (t.getD (i : Int).toNat default).length - k) 0 ⟨Nat.zero_le _, rfl⟩ leP leP ?_
    rintro k ⟨hk, hkr⟩
    have hka := nO (pre t i k)
    have hpl : (pre t i k).length ≤ 64 := by
     unfold pre
     rw [List.length_append, List.length_take]
     rw [Int.toNat_natCast] at h16
     omega
    by_cases hlk : k < (t.getD (i : Int).toNat default).length
    ·have c1 := rRight_p ((t.getD (i : Int).toNat default).getD (k : Int).toNat default)
     have c2 := lE ((t.getD (i : Int).toNat default).getD (k : Int).toNat default)
     have hac := pre_acc (t := t) (i := i) (k := k) (by simpa using hlk)
     have hsk := vR (t.getD (i : Int).toNat default) default k hlk
     change _ = _ + (if ((t.getD (i : Int).toNat default).getD (k : Int).toNat default).acc then 1 else 0) at hac
     change _ = _ ++ [(t.getD (i : Int).toNat default).getD (k : Int).toNat default] at hsk
     cases hsr : ((t.getD (i : Int).toNat default).getD (k : Int).toNat default).right with
     | false =>
      rw [hsr] at c1
      rw [pK h0 hlt (by
       unfold threadOk
       rw [show (t.getD i default).all Stp.right = false from List.all_eq_false.2 ⟨(t.getD (i : Int).toNat default).getD (k : Int).toNat default, wP hlk, by rw [hsr]; decide⟩]; simp)]
      refine run ?_; refine aoR fun _ => ?_
      refine run ?_; refine cnd ?_ ?_
      refine uE fun _ => ?_; try omega
      refine run ?_; refine aoR fun _ => ?_
      refine run ?_
      apply uA; exact rfl; exact .fn _ _ _; exact rfl; exact c1
      refine run ?_; refine cnd ?_ ?_; refine yY ?_; refine vH ?_; refine run ?_; refine aoR fun _ => ?_
      refine run ?_; rotate_left
      refine wN ?_
      exact vS
      refine uF fun _ => ?_; try omega
      all_goals exact xL rfl rfl
     | true =>
      rw [hsr] at c1
      have hkr1 : ((t.getD (i : Int).toNat default).take (k + 1)).all Stp.right = true := by
       rw [hsk, List.all_append, hkr, List.all_cons, hsr]; rfl
      cases hsa : ((t.getD (i : Int).toNat default).getD (k : Int).toNat default).acc with
      | false =>
       rw [hsa] at c2 hac
       refine run ?_; refine aoR fun _ => ?_
       refine run ?_; refine cnd ?_ ?_
       refine uE fun _ => ?_; try omega
       refine run ?_; refine aoR fun _ => ?_
       refine run ?_
       apply uA; exact rfl; exact .fn _ _ _; exact rfl; exact c1
       refine run ?_; refine cnd ?_ ?_; refine yY ?_
       exact uM
       refine wN ?_; refine uJ ?_; refine run ?_; refine aoR fun _ => ?_
       refine run ?_
       apply uA; exact rfl; exact .fn _ _ _; exact rfl; exact c2
       refine run ?_; refine cnd ?_ ?_
       exact vS
       refine vH ?_; refine run ?_; refine aoR fun _ => ?_
       refine run ?_; rotate_left
       refine uF fun _ => ?_; try omega
       refine uU (k + 1) ⟨by omega, hkr1⟩ (by omega) (by repeat' (first | exact vP _ | exact uL _ | refine uO rfl ?_ | refine uS rfl ?_ | (refine vD rfl ?_ ?_; (rw [hac]; simp)) | (refine uR rfl ?_ ?_; (rw [hac]; simp)) | (refine uN rfl ?_ ?_; (rw [hac]; simp)))) leP
      | true =>
       rw [hsa] at c2 hac
       refine run ?_; refine aoR fun _ => ?_
       refine run ?_; refine cnd ?_ ?_
       refine uE fun _ => ?_; try omega
       refine run ?_; refine aoR fun _ => ?_
       refine run ?_
       apply uA; exact rfl; exact .fn _ _ _; exact rfl; exact c1
       refine run ?_; refine cnd ?_ ?_; refine yY ?_
       exact uM
       refine wN ?_; refine uJ ?_; refine run ?_; refine aoR fun _ => ?_
       refine run ?_
       apply uA; exact rfl; exact .fn _ _ _; exact rfl; exact c2
       refine run ?_; refine cnd ?_ ?_; refine uJ ?_; refine aoR fun _ => ?_
       refine run ?_; refine aoR fun _ => ?_
       refine run ?_; rotate_left
       exact uM
       refine uF fun _ => ?_; try omega
       refine uU (k + 1) ⟨by omega, hkr1⟩ (by omega) (by repeat' (first | exact vP _ | exact uL _ | refine uO rfl ?_ | refine uS rfl ?_ | (refine vD rfl ?_ ?_; (rw [hac]; simp)) | (refine uR rfl ?_ ?_; (rw [hac]; simp)) | (refine uN rfl ?_ ?_; (rw [hac]; simp)))) leP
    ·have hkk : k = (t.getD (i : Int).toNat default).length := by omega
     have en := iY hlt
     refine run ?_; refine aoR fun _ => ?_
     refine run ?_; refine cnd ?_ ?_
     refine uE fun _ => ?_; try omega
     refine uF fun _ => ?_; try omega
     refine run ?_; refine aoR fun _ => ?_
     refine run ?_; rotate_left
     rw [hkk, List.take_length] at hkr
     refine uU (i + 1) ⟨by omega, ?_⟩ (by omega) (by rw [en, hkk]; exact leP) leP
     rw [vR t default i hlt, List.all_append, hok]
     simp only [List.all_cons, List.all_nil, Bool.and_true, Bool.true_and]
     unfold threadOk
     rw [show (t.getD i default).all Stp.right = true from hkr, decide_eq_true (show (t.getD i default).length ≤ 16 by rw [Int.toNat_natCast] at h16; omega)]; rfl
  ·have hil : i = t.length := by omega
   subst hil
   rw [List.take_length] at hok
   rw [mP]
   have h16 : ∀ l ∈ t, l.length ≤ 16 := fun l hl => by
    have h := List.all_eq_true.1 hok l hl
    unfold threadOk at h
    simp only [Bool.and_eq_true, decide_eq_true_eq] at h
    exact h.1
   have hr : ∀ l ∈ t, ∀ s ∈ l, s.right = true := fun l hl s hs => by
    have h := List.all_eq_true.1 hok l hl
    unfold threadOk at h
    simp only [Bool.and_eq_true] at h
    exact List.all_eq_true.1 h.2 s hs
   have c1 := qY t hn4 h16 hr
   have e : checkT t = if 8 < accs t.flatten ∨ 10000 < waysT t then 2 else 0 := by
    unfold checkT
    rw [if_neg h0, if_neg (by rw [hok]; decide)]
   rw [e]
   refine run ?_; refine aoR fun _ => ?_
   refine run ?_; refine cnd ?_ ?_
   refine uE fun _ => ?_; try omega
   refine uF fun _ => ?_; try omega
   refine run ?_; refine aoR fun _ => ?_
   refine run ?_
   apply spF; exact rfl
   intro hc_
   have hp_ := hc_; try simp only [nrm] at hp_
   apply uV; exact evm; exact .fn _ _ _; exact wM; exact c1
   refine run ?_; refine cnd ?_ ?_
   refine xI (fun hc_ => ?_); (try simp only [nrm] at hc_)
   refine run ?_; refine aoR fun _ => ?_
   refine run ?_; rotate_left
   refine xJ ?_
   iterate 2 refine uF fun _ => ?_; try omega
   refine run ?_; refine aoR fun _ => ?_
   refine run ?_; rotate_left
   all_goals (refine xL rfl ?_; split <;> first | rfl | (exfalso; omega))
def smallB (t : Ts) : Bool := decide (t.length ≤ 6) && (t.all fun l => decide (l.length ≤ 20)) && (decide (checkT t ≠ 0) || decide (waysT t ≤ 400))
set_option maxHeartbeats 4000000 in
theorem small_p (t : Ts) : Pure E.P 28 [testOV t] (.bool (smallB t)) := by
 have f1 : Frozen 1 := ⟨trivial⟩
 have c1 := rCheck_p t
 refine fnA Tryz.func28 Tryz.ntmps28 ?_
 by_cases h6 : 6 < t.length
 ·have e : smallB t = false := by unfold smallB; rw [decide_eq_false (by omega)]; rfl
  rw [e]
  refine run ?_; refine aoR fun _ => ?_
  refine run ?_; refine aoR fun _ => ?_
  refine run ?_; refine cnd ?_ ?_
  refine uE fun _ => ?_; try omega
  refine run ?_; refine aoR fun _ => ?_
  refine run ?_; rotate_left
  refine uF fun _ => ?_; try omega
  all_goals first | exact uX rfl rfl | (exfalso; omega)
 ·refine run ?_
  refine aoR fun _ => ?_; refine run ?_
  refine aoR fun _ => ?_; refine run ?_
  refine cnd ?_ ?_
  refine uE fun _ => ?_; try omega
  refine uF fun _ => ?_; try omega
  refine run ?_; refine aoR fun _ => ?_
  refine run ?_; rotate_left
  all_goals try omega
  refine vA (X := Nat) (fun i => tmL [(1, .d (.pt [.sl 1 (t.map catRowT)] 0)), (3, .int .i64 i)]) (fun _ => stL []) (fun i => i ≤ t.length ∧ ((t.take i).all fun l => decide (l.length ≤ 20)) = true) (fun i => t.length - i) 0 ⟨Nat.zero_le _, rfl⟩ leP leP ?_
  rintro i ⟨hi, hok⟩
  by_cases hlt : i < t.length
  ·by_cases h20 : 20 < (t.getD (i : Int).toNat default).length
   ·have e : smallB t = false := by
     unfold smallB
     rw [List.all_eq_false.2 ⟨t.getD i default, wP hlt, by rw [Int.toNat_natCast] at h20; simpa using h20⟩]; simp
    rw [e]
    refine run ?_; refine aoR fun _ => ?_
    refine run ?_; refine cnd ?_ ?_
    refine uE fun _ => ?_; try omega
    refine run ?_; refine aoR fun _ => ?_
    refine run ?_; refine cnd ?_ ?_
    refine uE fun _ => ?_; try omega
    refine run ?_; refine aoR fun _ => ?_
    refine run ?_; rotate_left
    iterate 2 refine uF fun _ => ?_; try omega
    all_goals first | exact uX rfl rfl | (exfalso; omega)
   ·refine run ?_
    refine aoR fun _ => ?_; refine run ?_
    refine cnd ?_ ?_
    refine uE fun _ => ?_; try omega
    refine run ?_; refine aoR fun _ => ?_
    refine run ?_; refine cnd ?_ ?_
    refine uE fun _ => ?_; try omega
    refine uF fun _ => ?_; try omega
    refine run ?_; refine aoR fun _ => ?_
    refine run ?_; rotate_left
    refine uF fun _ => ?_; try omega
    all_goals try omega
    refine uU (i + 1) ⟨by omega, ?_⟩ (by omega) leP leP
    rw [vR t default i hlt, List.all_append, hok, List.all_cons, decide_eq_true (by rw [Int.toNat_natCast] at h20; omega)]; rfl
  ·have hil : i = t.length := by omega
   subst hil
   rw [List.take_length] at hok
   have e : smallB t = (decide (checkT t ≠ 0) || decide (waysT t ≤ 400)) := by
    unfold smallB
    rw [decide_eq_true (by omega : t.length ≤ 6), hok]; rfl
   rw [e]
   by_cases hc : checkT t = 0
   ·obtain ⟨g1, g2, g3⟩ := dA hc
    have c2 := qY t g2 (fun l hl => (g3 l hl).1) (fun l hl => (g3 l hl).2)
    rw [hc] at c1 ⊢
    refine run ?_; refine aoR fun _ => ?_
    refine run ?_; refine cnd ?_ ?_
    refine uE fun _ => ?_; try omega
    refine uF fun _ => ?_; try omega
    refine run ?_; refine aoR fun _ => ?_
    refine run ?_
    apply uA; exact rfl; exact .fn _ _ _; exact rfl; exact c1
    refine run ?_
    apply spF; exact rfl
    intro hc_
    have hp_ := hc_; try simp only [nrm] at hp_
    apply uV; exact evm; exact .fn _ _ _; exact wM; exact c2
    refine run ?_; rotate_left
    all_goals (refine uX rfl ?_; simp)
   ·refine run ?_
    refine aoR fun _ => ?_; refine run ?_
    refine cnd ?_ ?_
    refine uE fun _ => ?_; try omega
    refine uF fun _ => ?_; try omega
    refine run ?_; refine aoR fun _ => ?_
    refine run ?_
    apply uA; exact rfl; exact .fn _ _ _; exact rfl; exact c1
    refine run ?_
    apply spF; exact rfl
    intro hc_
    have hp_ := hc_; try simp only [nrm] at hp_
    (apply uV; exact evm; exact .fn _ _ _; exact wM; exact (show Pure E.P _ _ (.int .i64 (waysT t)) from by exfalso; simp [hc] at hc_))
    refine run ?_; rotate_left
    all_goals (refine uX rfl ?_; simp [hc])
end
set_option maxRecDepth 100000
section
open Go.RowKit Go.Lib
theorem small_len (h : smallB t = true) : t.length ≤ 6 ∧ ∀ l ∈ t, l.length ≤ 1152921504606846976 := by
 unfold smallB at h
 simp only [Bool.and_eq_true, decide_eq_true_eq, List.all_eq_true] at h
 exact ⟨h.1.1, fun l hl => Nat.le_trans (h.1.2 l hl) (by decide)⟩
theorem print_len (hc : checkT t = 0) (hn : n32T t) : (printT t).length ≤ 12180 := by
 obtain ⟨_, h4, ho⟩ := dA hc
 have := dQ t fun l hl => ⟨(ho l hl).1, fun s hs => ⟨(ho l hl).2 s hs, hn l hl s hs⟩⟩
 omega
set_option maxHeartbeats 4000000 in
theorem back_p (t : Ts) (text : Bt) (hn : n32T t) (hx : text.length ≤ 1152921504606846976) : Pure E.P 12 [testOV t, .bs text] (.bool true) := by
 have f2 : Frozen 2 := ⟨trivial⟩
 have f7 : Frozen 7 := ⟨trivial⟩
 have f10 : Frozen 10 := ⟨trivial⟩
 have cw := works_p
 have cn := fun n => num_p n
 have s1 := small_p t
 cases h1 : smallB t with
 | false =>
  rw [h1] at s1
  refine fnA Tryz.func12 Tryz.ntmps12 ?_
  refine run ?_; refine aoR fun _ => ?_
  refine run ?_; refine aoR fun _ => ?_
  refine run ?_
  apply uA; exact rfl; exact .fn _ _ _; exact rfl; (exact s1)
  refine run ?_
  apply spF; exact rfl
  intro hc_
  have hp_ := hc_; try simp only [nrm] at hp_
  apply zU; exact rfl; exact rfl; exact evm
  refine run ?_; refine cnd ?_ ?_
  refine xI (fun hc_ => ?_); (try simp only [nrm] at hc_)
  refine run ?_; refine aoR fun _ => ?_
  apply uA; exact rfl; exact .fn _ _ _; exact rfl; (exact cw)
  refine run ?_; rotate_left
  refine xJ ?_; refine wN ?_
  exact vS
  all_goals first | (exfalso; exact he (by assumption)) | (exfalso; simp at hc_; done) | (exfalso; simp at hc_; omega) | exact uX rfl rfl
 | true =>
  rw [h1] at s1
  by_cases hl : 2000 < text.length
  ·refine fnA Tryz.func12 Tryz.ntmps12 ?_
   refine run ?_; refine aoR fun _ => ?_
   refine run ?_; refine aoR fun _ => ?_
   refine run ?_
   apply uA; exact rfl; exact .fn _ _ _; exact rfl; (exact s1)
   refine run ?_
   apply spF; exact rfl
   intro hc_
   have hp_ := hc_; try simp only [nrm] at hp_
   apply zU; exact rfl; exact rfl; exact evm
   refine run ?_; refine cnd ?_ ?_
   refine xI (fun hc_ => ?_); (try simp only [nrm] at hc_)
   refine run ?_; refine aoR fun _ => ?_
   apply uA; exact rfl; exact .fn _ _ _; exact rfl; (exact cw)
   refine run ?_; rotate_left
   refine xJ ?_; refine wN ?_; refine uJ ?_
   refine uF fun _ => ?_; try omega
   all_goals first | (exfalso; exact he (by assumption)) | (exfalso; simp at hc_; done) | (exfalso; simp at hc_; omega) | exact uX rfl rfl
  ·obtain ⟨a1, a2⟩ := small_len h1
   have c2 := rA text (by omega)
   obtain ⟨⟨v, k, e⟩, hv⟩ : ∃ q, q = parseT text := ⟨_, rfl⟩
   rw [← hv] at c2
   have m1 := same_p t t (by omega) (by omega) a2 a2
   rw [decide_eq_true (rfl : t = t)] at m1
   have hb : e = 0 → checkT v = 0 ∧ n32T v ∧ printT v = text := fun he => by
    subst he
    obtain ⟨h1, _, h3, h4⟩ := parseT_back hv.symm
    exact ⟨h1, h3, h4⟩
   by_cases hc : checkT t = 0
   ·have cp := mO t hc hn
    have hpl := print_len hc hn
    have c3 := rA (printT t) (by omega)
    rw [parse_print hc hn (by omega)] at c3
    by_cases he : e = 0
    ·obtain ⟨b1, b2, b3⟩ := hb he
     have cv := mO v b1 b2
     rw [b3] at cv
     subst he
     refine fnA Tryz.func12 Tryz.ntmps12 ?_
     refine run ?_; refine aoR fun _ => ?_
     refine run ?_; refine aoR fun _ => ?_
     refine run ?_
     apply uA; exact rfl; exact .fn _ _ _; exact rfl; (exact s1)
     refine run ?_
     apply spF; exact rfl
     intro hc_
     have hp_ := hc_; try simp only [nrm] at hp_
     apply zU; exact rfl; exact rfl; exact evm
     refine run ?_; refine cnd ?_ ?_
     refine xI (fun hc_ => ?_); (try simp only [nrm] at hc_)
     refine run ?_; refine aoR fun _ => ?_
     apply uA; exact rfl; exact .fn _ _ _; exact rfl; (exact cw)
     refine run ?_; rotate_left
     refine xJ ?_; refine wN ?_; refine uJ ?_
     refine uF fun _ => ?_; try omega
     refine run ?_; refine aoR fun _ => ?_
     refine run ?_
     apply uA; exact rfl; exact .fn _ _ _; exact rfl; (exact cp)
     refine run ?_; refine aoR fun _ => ?_
     refine run ?_
     apply uA; exact rfl; exact .fn _ _ _; exact rfl; (exact cn _)
     refine run ?_; refine cnd ?_ ?_
     refine uE fun _ => ?_; try omega
     refine run ?_; refine aoR fun _ => ?_
     refine run ?_
     apply uA; exact rfl; exact .fn _ _ _; exact rfl; (exact c3)
     refine run ?_; refine aoR fun _ => ?_
     refine run ?_
     apply uA; exact rfl; exact .fn _ _ _; exact rfl; (exact cn _)
     refine run ?_
     apply spF; exact rfl
     intro hc_
     have hp_ := hc_; try simp only [nrm] at hp_
     apply uV; exact evm; exact .fn _ _ _; exact wM; (exact m1)
     refine run ?_; refine cnd ?_ ?_
     refine xI (fun hc_ => ?_); (try simp only [nrm] at hc_)
     refine run ?_; refine aoR fun _ => ?_
     refine run ?_; rotate_left
     iterate 2 refine xJ ?_
     iterate 2 (refine yX (fun _ => ?_); (try omega))
     refine wN ?_; refine uJ ?_; refine run ?_; refine aoR fun _ => ?_
     refine run ?_
     apply uA; exact rfl; exact .fn _ _ _; exact rfl; (exact c2)
     refine run ?_; refine aoR fun _ => ?_
     refine run ?_
     apply uA; exact rfl; exact .fn _ _ _; exact rfl; (exact cn _)
     refine run ?_; refine cnd ?_ ?_
     refine uE fun _ => ?_; try omega
     refine run ?_; refine aoR fun _ => ?_
     refine run ?_
     apply uA; exact rfl; exact .fn _ _ _; exact rfl; (exact cv)
     refine run ?_; refine aoR fun _ => ?_
     refine run ?_
     apply uA; exact rfl; exact .fn _ _ _; exact rfl; (exact cn _)
     refine run ?_
     apply spF; exact rfl
     intro hc_
     have hp_ := hc_; try simp only [nrm] at hp_
     apply wU; exact evm; exact evm
     refine run ?_; refine cnd ?_ ?_
     refine xI (fun hc_ => ?_); (try simp only [nrm] at hc_)
     refine run ?_; refine aoR fun _ => ?_
     refine run ?_; rotate_left
     refine xJ ?_
     iterate 2 (refine yX (fun _ => ?_); (try omega))
     refine run ?_; refine aoR fun _ => ?_
     apply uA; exact rfl; exact .fn _ _ _; exact rfl; (exact cw)
     refine run ?_; rotate_left
     refine uF fun _ => ?_; try omega
     refine run ?_; refine aoR fun _ => ?_
     apply uA; exact rfl; exact .fn _ _ _; exact rfl; (exact cw)
     refine run ?_; rotate_left
     refine uF fun _ => ?_; try omega
     all_goals first | (exfalso; exact he (by assumption)) | (exfalso; simp at hc_; done) | (exfalso; simp at hc_; omega) | (refine uX rfl ?_; simp; done)
    ·refine fnA Tryz.func12 Tryz.ntmps12 ?_
     refine run ?_; refine aoR fun _ => ?_
     refine run ?_; refine aoR fun _ => ?_
     refine run ?_
     apply uA; exact rfl; exact .fn _ _ _; exact rfl; (exact s1)
     refine run ?_
     apply spF; exact rfl
     intro hc_
     have hp_ := hc_; try simp only [nrm] at hp_
     apply zU; exact rfl; exact rfl; exact evm
     refine run ?_; refine cnd ?_ ?_
     refine xI (fun hc_ => ?_); (try simp only [nrm] at hc_)
     refine run ?_; refine aoR fun _ => ?_
     apply uA; exact rfl; exact .fn _ _ _; exact rfl; (exact cw)
     refine run ?_; rotate_left
     refine xJ ?_; refine wN ?_; refine uJ ?_
     refine uF fun _ => ?_; try omega
     refine run ?_; refine aoR fun _ => ?_
     refine run ?_
     apply uA; exact rfl; exact .fn _ _ _; exact rfl; (exact cp)
     refine run ?_; refine aoR fun _ => ?_
     refine run ?_
     apply uA; exact rfl; exact .fn _ _ _; exact rfl; (exact cn _)
     refine run ?_; refine cnd ?_ ?_
     refine uE fun _ => ?_; try omega
     refine run ?_; refine aoR fun _ => ?_
     refine run ?_
     apply uA; exact rfl; exact .fn _ _ _; exact rfl; (exact c3)
     refine run ?_; refine aoR fun _ => ?_
     refine run ?_
     apply uA; exact rfl; exact .fn _ _ _; exact rfl; (exact cn _)
     refine run ?_
     apply spF; exact rfl
     intro hc_
     have hp_ := hc_; try simp only [nrm] at hp_
     apply uV; exact evm; exact .fn _ _ _; exact wM; (exact m1)
     refine run ?_; refine cnd ?_ ?_
     refine xI (fun hc_ => ?_); (try simp only [nrm] at hc_)
     refine run ?_; refine aoR fun _ => ?_
     refine run ?_; rotate_left
     iterate 2 refine xJ ?_
     iterate 2 (refine yX (fun _ => ?_); (try omega))
     refine wN ?_; refine uJ ?_; refine run ?_; refine aoR fun _ => ?_
     refine run ?_
     apply uA; exact rfl; exact .fn _ _ _; exact rfl; (exact c2)
     refine run ?_; refine aoR fun _ => ?_
     refine run ?_
     apply uA; exact rfl; exact .fn _ _ _; exact rfl; (exact cn _)
     refine run ?_; refine cnd ?_ ?_
     refine uE fun _ => ?_; try omega
     refine run ?_; refine aoR fun _ => ?_
     refine run ?_; rotate_left
     refine uF fun _ => ?_; try omega
     refine run ?_; refine aoR fun _ => ?_
     apply uA; exact rfl; exact .fn _ _ _; exact rfl; (exact cw)
     refine run ?_; rotate_left
     refine uF fun _ => ?_; try omega
     all_goals first | (exfalso; exact he (by assumption)) | (exfalso; simp at hc_; done) | (exfalso; simp at hc_; omega) | (refine uX rfl ?_; simp; done)
   ·have cp := printNo_p t hc
    by_cases he : e = 0
    ·obtain ⟨b1, b2, b3⟩ := hb he
     have cv := mO v b1 b2
     rw [b3] at cv
     subst he
     refine fnA Tryz.func12 Tryz.ntmps12 ?_
     refine run ?_; refine aoR fun _ => ?_
     refine run ?_; refine aoR fun _ => ?_
     refine run ?_
     apply uA; exact rfl; exact .fn _ _ _; exact rfl; (exact s1)
     refine run ?_
     apply spF; exact rfl
     intro hc_
     have hp_ := hc_; try simp only [nrm] at hp_
     apply zU; exact rfl; exact rfl; exact evm
     refine run ?_; refine cnd ?_ ?_
     refine xI (fun hc_ => ?_); (try simp only [nrm] at hc_)
     refine run ?_; refine aoR fun _ => ?_
     apply uA; exact rfl; exact .fn _ _ _; exact rfl; (exact cw)
     refine run ?_; rotate_left
     refine xJ ?_; refine wN ?_; refine uJ ?_
     refine uF fun _ => ?_; try omega
     refine run ?_; refine aoR fun _ => ?_
     refine run ?_
     apply uA; exact rfl; exact .fn _ _ _; exact rfl; (exact cp)
     refine run ?_; refine aoR fun _ => ?_
     refine run ?_
     apply uA; exact rfl; exact .fn _ _ _; exact rfl; (exact cn _)
     refine run ?_; refine cnd ?_ ?_
     refine uE fun _ => ?_; try omega
     refine uF fun _ => ?_; try omega
     refine run ?_; refine aoR fun _ => ?_
     refine run ?_
     apply uA; exact rfl; exact .fn _ _ _; exact rfl; (exact c2)
     refine run ?_; refine aoR fun _ => ?_
     refine run ?_
     apply uA; exact rfl; exact .fn _ _ _; exact rfl; (exact cn _)
     refine run ?_; refine cnd ?_ ?_
     refine uE fun _ => ?_; try omega
     refine run ?_; refine aoR fun _ => ?_
     refine run ?_
     apply uA; exact rfl; exact .fn _ _ _; exact rfl; (exact cv)
     refine run ?_; refine aoR fun _ => ?_
     refine run ?_
     apply uA; exact rfl; exact .fn _ _ _; exact rfl; (exact cn _)
     refine run ?_
     apply spF; exact rfl
     intro hc_
     have hp_ := hc_; try simp only [nrm] at hp_
     apply wU; exact evm; exact evm
     refine run ?_; refine cnd ?_ ?_
     refine xI (fun hc_ => ?_); (try simp only [nrm] at hc_)
     refine run ?_; refine aoR fun _ => ?_
     refine run ?_; rotate_left
     refine xJ ?_
     iterate 2 (refine yX (fun _ => ?_); (try omega))
     refine run ?_; refine aoR fun _ => ?_
     apply uA; exact rfl; exact .fn _ _ _; exact rfl; (exact cw)
     refine run ?_; rotate_left
     refine uF fun _ => ?_; try omega
     refine run ?_; refine aoR fun _ => ?_
     apply uA; exact rfl; exact .fn _ _ _; exact rfl; (exact cw)
     refine run ?_; rotate_left
     all_goals first | (exfalso; exact he (by assumption)) | (exfalso; simp at hc_; done) | (exfalso; simp at hc_; omega) | (refine uX rfl ?_; simp; done)
    ·refine fnA Tryz.func12 Tryz.ntmps12 ?_
     refine run ?_; refine aoR fun _ => ?_
     refine run ?_; refine aoR fun _ => ?_
     refine run ?_
     apply uA; exact rfl; exact .fn _ _ _; exact rfl; (exact s1)
     refine run ?_
     apply spF; exact rfl
     intro hc_
     have hp_ := hc_; try simp only [nrm] at hp_
     apply zU; exact rfl; exact rfl; exact evm
     refine run ?_; refine cnd ?_ ?_
     refine xI (fun hc_ => ?_); (try simp only [nrm] at hc_)
     refine run ?_; refine aoR fun _ => ?_
     apply uA; exact rfl; exact .fn _ _ _; exact rfl; (exact cw)
     refine run ?_; rotate_left
     refine xJ ?_; refine wN ?_; refine uJ ?_
     refine uF fun _ => ?_; try omega
     refine run ?_; refine aoR fun _ => ?_
     refine run ?_
     apply uA; exact rfl; exact .fn _ _ _; exact rfl; (exact cp)
     refine run ?_; refine aoR fun _ => ?_
     refine run ?_
     apply uA; exact rfl; exact .fn _ _ _; exact rfl; (exact cn _)
     refine run ?_; refine cnd ?_ ?_
     refine uE fun _ => ?_; try omega
     refine uF fun _ => ?_; try omega
     refine run ?_; refine aoR fun _ => ?_
     refine run ?_
     apply uA; exact rfl; exact .fn _ _ _; exact rfl; (exact c2)
     refine run ?_; refine aoR fun _ => ?_
     refine run ?_
     apply uA; exact rfl; exact .fn _ _ _; exact rfl; (exact cn _)
     refine run ?_; refine cnd ?_ ?_
     refine uE fun _ => ?_; try omega
     refine run ?_; refine aoR fun _ => ?_
     refine run ?_; rotate_left
     refine uF fun _ => ?_; try omega
     refine run ?_; refine aoR fun _ => ?_
     apply uA; exact rfl; exact .fn _ _ _; exact rfl; (exact cw)
     refine run ?_; rotate_left
     all_goals first | (exfalso; exact he (by assumption)) | (exfalso; simp at hc_; done) | (exfalso; simp at hc_; omega) | (refine uX rfl ?_; simp; done)
theorem back_q (t : Ts) (text : Bt) (_ : t.length ≤ 1152921504606846976) (_ : ∀ l ∈ t, l.length ≤ 1152921504606846976) (hn : n32T t) (hx : text.length ≤ 1152921504606846976) : Pure E.P 12 [testOV t, .bs text] (.bool true) := back_p t text hn hx
end
set_option maxRecDepth 100000
section
open Go.RowKit Go.Lib
def pow10L : List Int := (List.range 20).map fun i => ((10 ^ i : Nat) : Int)
def powVar : String × DataW Unit := Rows.litmusStepsRow.laid.getD 2 ("", .nil)
theorem powG : Tryz.prog.globalNamed powVar.1 = some 1 := by kernel_rfl
theorem pow_of (hf : (L.filter fun x => x.1.length == 28) = [powVar]) (h : laidMetH Tryz.prog L W) : Pow10 W := by
 have h1 := h.filter fun x => x.1.length == 28
 rw [hf, MakeChecks.laidMetH_plain _ _ _ (by kernel_rfl)] at h1
 have hd : powVar = (powVar.1, tabData .u64 pow10L) := by kernel_rfl
 rw [hd] at h1
 have hT : Lib.TabIs Tryz.prog W powVar.1 .u64 pow10L := tabIs_of_head powG (by kernel_rfl) Tryz.underlying306 Tryz.underlying178 (by kernel_rfl) (by kernel_rfl) h1
 intro i hi
 have hl : pow10L.length = 20 := by decide
 rw [hT.cell powG i (by omega)]
 simp [pow10L, List.getD, hi]
end
set_option maxRecDepth 100000
section
open Go.RowKit Go.ChangeShapes Go.WideShapes Go.Deep
theorem cells_stp : Tryz.prog.cellsOf 47 = 10 := by kernel_rfl
theorem bytes_stp : 1 ≤ Tryz.prog.bytesOf 47 := of_decide_eq_true (by kernel_rfl)
theorem cells_skind : Tryz.prog.cellsOf 45 = 1 := by kernel_rfl
theorem cells_stps : Tryz.prog.cellsOf 49 = 1 := by kernel_rfl
theorem bytes_stps : 1 ≤ Tryz.prog.bytesOf 49 := of_decide_eq_true (by kernel_rfl)
theorem cells_tst : Tryz.prog.cellsOf 27 = 1 := by kernel_rfl
theorem cells_thr : Tryz.prog.cellsOf 25 = 1 := by kernel_rfl
theorem list10 {α : Type} {l : List α} (h : l.length = 10) : ∃ a b c d e f g i j k, l = [a, b, c, d, e, f, g, i, j, k] := by
 match l, h with
 | [a, b, c, d, e, f, g, i, j, k], _ => exact ⟨a, b, c, d, e, f, g, i, j, k, rfl⟩
section
variable {H : Type} {enc : TypeId × Value → H} {W : World} {sp : Nat → Bool} {held : Bool}
theorem step_rep {fuel : Nat} {x : DataW H × List MemPlace} (hlen : cs.length = 10) (h : DataW.trod enc Tryz.prog W 0 sp held fuel 47 cs = some x) :
  ∃ s : Stp, (∀ (j : Nat) (t : TV), (stTV s)[j]? = some t → ∃ v, cs[j]? = some v ∧ Rep (allM W) t v) ∧ s.n32 ∧ cs = [.int .i64 s.kind, .int .i64 s.reg, .int .i64 s.var, .int .u32 s.num, .int .i64 s.data, .int .i64 s.byr, .bool s.aq, .bool s.rl, .int .i64 s.pred, .int .i64 s.succ] := by
 obtain ⟨xs, n, _, rfl, _, hxl, hf⟩ := DataW.trod_struct Tryz.underlying47 h
 obtain ⟨c0, c1, c2, c3, c4, c5, c6, c7, c8, c9, rfl⟩ := list10 hlen
 have hxl : xs.length = 10 := hxl
 obtain ⟨x0, g0⟩ := zI hxl 0 (by decide)
 have t0 := hf 0 ⟨"Kind", 45, 0, false, "", "", 0⟩ rfl
 rw [g0] at t0
 rw [cells_skind, bJ (i := 0) rfl] at t0
 obtain ⟨x1, g1⟩ := zI hxl 1 (by decide)
 have t1 := hf 1 ⟨"Reg", 3, 1, false, "", "", 8⟩ rfl
 rw [g1] at t1
 rw [zG, bJ (i := 1) rfl] at t1
 obtain ⟨x2, g2⟩ := zI hxl 2 (by decide)
 have t2 := hf 2 ⟨"Var", 3, 2, false, "", "", 16⟩ rfl
 rw [g2] at t2
 rw [zG, bJ (i := 2) rfl] at t2
 obtain ⟨x3, g3⟩ := zI hxl 3 (by decide)
 have t3 := hf 3 ⟨"Num", 34, 3, false, "", "", 24⟩ rfl
 rw [g3] at t3
 rw [cells_u32, bJ (i := 3) rfl] at t3
 obtain ⟨x4, g4⟩ := zI hxl 4 (by decide)
 have t4 := hf 4 ⟨"Data", 3, 4, false, "", "", 32⟩ rfl
 rw [g4] at t4
 rw [zG, bJ (i := 4) rfl] at t4
 obtain ⟨x5, g5⟩ := zI hxl 5 (by decide)
 have t5 := hf 5 ⟨"By", 3, 5, false, "", "", 40⟩ rfl
 rw [g5] at t5
 rw [zG, bJ (i := 5) rfl] at t5
 obtain ⟨x6, g6⟩ := zI hxl 6 (by decide)
 have t6 := hf 6 ⟨"Aq", 4, 6, false, "", "", 48⟩ rfl
 rw [g6] at t6
 rw [jY, bJ (i := 6) rfl] at t6
 obtain ⟨x7, g7⟩ := zI hxl 7 (by decide)
 have t7 := hf 7 ⟨"Rl", 4, 7, false, "", "", 49⟩ rfl
 rw [g7] at t7
 rw [jY, bJ (i := 7) rfl] at t7
 obtain ⟨x8, g8⟩ := zI hxl 8 (by decide)
 have t8 := hf 8 ⟨"Pred", 3, 8, false, "", "", 56⟩ rfl
 rw [g8] at t8
 rw [zG, bJ (i := 8) rfl] at t8
 obtain ⟨x9, g9⟩ := zI hxl 9 (by decide)
 have t9 := hf 9 ⟨"Succ", 3, 9, false, "", "", 64⟩ rfl
 rw [g9] at t9
 rw [zG, bJ (i := 9) rfl] at t9
 obtain ⟨z0, e0, _, w0⟩ := DataW.trod_int Tryz.underlying45 t0
 obtain ⟨z1, e1, _, w1⟩ := DataW.trod_int Tryz.underlying3 t1
 obtain ⟨z2, e2, _, w2⟩ := DataW.trod_int Tryz.underlying3 t2
 obtain ⟨z3, e3, _, w3⟩ := DataW.trod_int Tryz.underlying34 t3
 obtain ⟨z4, e4, _, w4⟩ := DataW.trod_int Tryz.underlying3 t4
 obtain ⟨z5, e5, _, w5⟩ := DataW.trod_int Tryz.underlying3 t5
 obtain ⟨z6, e6, _⟩ := DataW.trod_bool Tryz.underlying4 t6
 obtain ⟨z7, e7, _⟩ := DataW.trod_bool Tryz.underlying4 t7
 obtain ⟨z8, e8, _, w8⟩ := DataW.trod_int Tryz.underlying3 t8
 obtain ⟨z9, e9, _, w9⟩ := DataW.trod_int Tryz.underlying3 t9
 simp only [List.cons.injEq, and_true] at e0 e1 e2 e3 e4 e5 e6 e7 e8 e9
 refine ⟨⟨z0, z1, z2, z3, z4, z5, z6, z7, z8, z9⟩, ?_, ⟨(sJ w3).1, Int.lt_add_one_iff.1 (sJ w3).2⟩, by rw [e0, e1, e2, e3, e4, e5, e6, e7, e8, e9]⟩
 rw [e0, e1, e2, e3, e4, e5, e6, e7, e8, e9]
 intro j t ht
 match j, ht with
 | 0, ht => cases ht; exact ⟨_, rfl, zN rfl⟩
 | 1, ht => cases ht; exact ⟨_, rfl, zN rfl⟩
 | 2, ht => cases ht; exact ⟨_, rfl, zN rfl⟩
 | 3, ht => cases ht; exact ⟨_, rfl, zN rfl⟩
 | 4, ht => cases ht; exact ⟨_, rfl, zN rfl⟩
 | 5, ht => cases ht; exact ⟨_, rfl, zN rfl⟩
 | 6, ht => cases ht; exact ⟨_, rfl, zN rfl⟩
 | 7, ht => cases ht; exact ⟨_, rfl, zN rfl⟩
 | 8, ht => cases ht; exact ⟨_, rfl, zN rfl⟩
 | 9, ht => cases ht; exact ⟨_, rfl, zN rfl⟩
 | n + 10, ht => cases ht
theorem steps_rep {fuel : Nat} {x : DataW H × List MemPlace} (h : DataW.trod enc Tryz.prog W 0 sp held fuel 49 cs = some x) (hw : ∀ n ∈ x.1.weights Tryz.prog 49, n ≤ reachBytes) :
  ∃ (v : Value) (l : List Stp), cs = [v] ∧ Rep (allM W) (stsTV l) v ∧ l.length ≤ 1152921504606846976 ∧ ∀ s ∈ l, s.n32 := by
 rcases open_slice Tryz.underlying49 h with ⟨rfl, rfl⟩ | ⟨a, len, cap, m, n, D, Pl, rfl, hb, hl, hm, hmm, rfl, hx⟩
 ·exact ⟨_, [], rfl, by unfold stsTV; rw [Rep]; exact ⟨none, 0, rfl, Nat.le_refl _, Or.inl rfl⟩, by simp, by simp⟩
 ·have hle : len ≤ m := by rw [hmm]; split <;> omega
  obtain ⟨hwt, hwe⟩ := qK Tryz.underlying49 hw
  rw [cells_stp] at hx
  obtain ⟨E, hE⟩ := choose_lt (α := Stp) (n := len) (p := fun i e => e.n32 ∧ ∀ (j : Nat) (t : TV), (stTV e)[j]? = some t → ∃ v, W.cell? (a.add (i * 10 + j)) = some v ∧ Rep (allM W) t v) (fun i hi => by
   obtain ⟨cs', h1, h2⟩ := hx i (by omega)
   obtain ⟨_, h3, h4⟩ := World.cells?_some h1
   obtain ⟨e, he, hok, _⟩ := step_rep h3 h2
   refine ⟨e, hok, fun j t hj => ?_⟩
   have hj3 : j < 10 := (List.getElem?_eq_some_iff.1 hj).1
   obtain ⟨v, h5, h6⟩ := he j t hj
   have := h4 j hj3
   rw [add_add, h5] at this
   exact ⟨v, this, h6⟩)
  have hL : ((List.range len).map E).length = len := by simp
  refine ⟨_, (List.range len).map E, rfl, ?_, ?_, ?_⟩
  ·unfold stsTV
   rw [Rep]
   refine ⟨some a, cap, by simp, by simpa using hl, ?_⟩
   by_cases h0 : len = 0
   ·left; subst h0; simp
   ·right
    obtain ⟨_, g0⟩ := hE 0 (by omega)
    obtain ⟨v0, g0, _⟩ := g0 0 _ rfl
    obtain ⟨hs, _⟩ := rY g0
    have ea := sB (a := a) hs
    refine ⟨a.block, a.off, by rw [← ea], RepR.of_get fun i r hi => ?_⟩
    rw [List.getElem?_map] at hi
    obtain ⟨e, he, rfl⟩ := Option.map_eq_some_iff.1 hi
    obtain ⟨hlt, rfl⟩ := List.getElem?_eq_some_iff.1 he
    rw [hL] at hlt
    simp only [List.getElem_map, List.getElem_range]
    refine ⟨rfl, RepC.of_get fun o t ht => ?_⟩
    obtain ⟨v, g1, g2⟩ := (hE i hlt).2 o t ht
    rw [ea, WideShapes.add_plain] at g1
    exact ⟨v, by rw [Nat.add_assoc]; exact g1, g2⟩
  ·rw [hL]
   simp only [List.length_map, List.length_range] at hwt
   have h2 : len ≤ (len + (m - len)) * Tryz.prog.bytesOf 47 := by
    refine Nat.le_trans ?_ (Nat.le_mul_of_pos_right _ (by have := bytes_stp; omega)); omega
   unfold reachBytes at hwt
   omega
  ·intro e he
   obtain ⟨i, hi, rfl⟩ := List.mem_map.1 he
   exact (hE i (List.mem_range.1 hi)).1
theorem threads_rep {fuel : Nat} {x : DataW H × List MemPlace} (h : DataW.trod enc Tryz.prog W 0 sp held fuel 25 cs = some x) (hw : ∀ n ∈ x.1.weights Tryz.prog 25, n ≤ reachBytes) :
  ∃ (v : Value) (t : Ts), cs = [v] ∧ Rep (allM W) (.sl 1 (t.map catRowT)) v ∧ t.length ≤ 1152921504606846976 ∧ (∀ l ∈ t, l.length ≤ 1152921504606846976) ∧ n32T t := by
 rcases open_slice1 Tryz.underlying25 cells_stps h with ⟨rfl, rfl⟩ | ⟨a, len, cap, m, n, V, D, Pl, rfl, hb, hl, hm, hmm, rfl, hx⟩
 ·exact ⟨_, [], rfl, by rw [Rep]; exact ⟨none, 0, rfl, Nat.le_refl _, Or.inl rfl⟩, by simp, by simp, by simp [n32T]⟩
 ·have hle : len ≤ m := by rw [hmm]; split <;> omega
  obtain ⟨hwt, hwe⟩ := qK Tryz.underlying25 hw
  obtain ⟨E, hE⟩ := choose_lt (α := List Stp) (n := len) (p := fun i r => (r.length ≤ 1152921504606846976 ∧ ∀ s ∈ r, Stp.n32 s) ∧ ∃ v, W.cell? (a.add i) = some v ∧ Rep (allM W) (stsTV r) v) (fun i hi => by
   obtain ⟨h1, h2⟩ := hx i (by omega)
   obtain ⟨v, l, e1, e2, e3, e4⟩ := steps_rep h2 (hwe _ (by simp only [List.mem_map, List.mem_range]; exact ⟨i, hi, rfl⟩))
   simp only [List.cons.injEq, and_true] at e1
   rw [e1] at h1
   exact ⟨l, ⟨e3, e4⟩, v, h1, e2⟩)
  have hL : ((List.range len).map E).length = len := by simp
  refine ⟨_, (List.range len).map E, rfl, ?_, ?_, ?_, ?_⟩
  ·rw [Rep]
   refine ⟨some a, cap, by simp, by simpa using hl, ?_⟩
   by_cases h0 : len = 0
   ·left; subst h0; simp
   ·right
    obtain ⟨_, v0, g0, _⟩ := hE 0 (by omega)
    obtain ⟨hs, _⟩ := rY g0
    have ea := sB (a := a) hs
    refine ⟨a.block, a.off, by rw [← ea], RepR.of_get fun i r hi => ?_⟩
    rw [List.getElem?_map] at hi
    obtain ⟨e, he, rfl⟩ := Option.map_eq_some_iff.1 hi
    obtain ⟨hlt, rfl⟩ := List.getElem?_eq_some_iff.1 he
    rw [hL] at hlt
    simp only [List.getElem_map, List.getElem_range]
    refine ⟨rfl, RepC.of_get fun o t ht => ?_⟩
    cases o with
    | succ o => simp [catRowT] at ht
    | zero =>
     simp [catRowT] at ht
     subst ht
     obtain ⟨v, g1, g2⟩ := (hE i hlt).2
     rw [ea, WideShapes.add_plain] at g1
     exact ⟨v, by simpa [allM] using g1, g2⟩
  ·rw [hL]
   simp only [List.length_map, List.length_range] at hwt
   have h2 : len ≤ (len + (m - len)) * Tryz.prog.bytesOf 49 := by
    refine Nat.le_trans ?_ (Nat.le_mul_of_pos_right _ (by have := bytes_stps; omega)); omega
   unfold reachBytes at hwt
   omega
  ·intro r hr
   obtain ⟨i, hi, rfl⟩ := List.mem_map.1 hr
   exact (hE i (List.mem_range.1 hi)).1.1
  ·intro r hr
   obtain ⟨i, hi, rfl⟩ := List.mem_map.1 hr
   exact (hE i (List.mem_range.1 hi)).1.2
theorem test_arg {v : Value} {d : DataW H} (hv : Value.okWide Tryz.prog W r b0 27 v) (h : DataW.Trod enc Tryz.prog W 0 sp held 27 v d p) (hw : ∀ n ∈ d.weights Tryz.prog 27, n ≤ reachBytes) :
  ∃ t : Ts, (∀ kn, RepO (allG W kn) (testOV t) v) ∧ t.length ≤ 1152921504606846976 ∧ (∀ l ∈ t, l.length ≤ 1152921504606846976) ∧ n32T t := by
 obtain ⟨cs, rfl, hsz⟩ := okWide_struct Tryz.underlying27 hv
 obtain ⟨fuel, hf⟩ := h
 have hlen : cs.toList.length = 1 := by rw [Array.length_toList, hsz, cells_tst]
 obtain ⟨xs, n, _, e, _, hxl, hf⟩ := DataW.trod_struct Tryz.underlying27 hf
 have hxl : xs.length = 1 := hxl
 obtain ⟨c0, hc0⟩ : ∃ c0, cs.toList = [c0] := List.length_eq_one_iff.1 hlen
 obtain ⟨x0, g0⟩ := zI hxl 0 (by decide)
 have t0 := hf 0 ⟨"Threads", 25, 0, false, "", "", 0⟩ rfl
 have hc0' : (Value.agg cs).cells.toList = [c0] := hc0
 rw [g0, hc0'] at t0
 rw [cells_thr, bJ (i := 0) rfl] at t0
 simp only [Prod.mk.injEq] at e
 obtain ⟨rfl, _⟩ := e
 obtain ⟨v, t, e1, e2, e3, e4, e5⟩ := threads_rep t0 (w_struct Tryz.underlying27 hw (i := 0) rfl (by rw [List.getElem?_map, g0]; rfl))
 simp only [List.cons.injEq, and_true] at e1
 subst e1
 refine ⟨t, fun kn => ?_, e3, e4, e5⟩
 unfold testOV
 rw [RepO]
 refine ⟨cs, rfl, ?_⟩
 rw [hc0, RepOL]
 exact ⟨_, _, rfl, by rw [RepO]; exact e2, by rw [RepOL]⟩
end
end
set_option maxRecDepth 100000
section
open Go.RowKit Go.ChangeShapes Go.WideShapes Go.Deep
def synVar : String × DataW Unit := ("strconv.ErrSyntax", .iface "*errors.errorString" (.ptr (.agg [.lit (.string [105, 110, 118, 97, 108, 105, 100, 32, 115, 121, 110, 116, 97, 120])])))
def rngVar : String × DataW Unit := ("strconv.ErrRange", .iface "*errors.errorString" (.ptr (.agg [.lit (.string [118, 97, 108, 117, 101, 32, 111, 117, 116, 32, 111, 102, 32, 114, 97, 110, 103, 101])])))
theorem uAK : "*" ++ "errors.errorString" = "*errors.errorString" := by decide
theorem row9 (u : TypeId) (h : Tryz.prog.typeName? 3 u = some "*errors.errorString") : u = 325 :=
 typeName_ptr_named (nm := "errors.errorString") (by rw [uAK]; kernel_rfl) (by kernel_rfl) (by decide) u (by rw [uAK]; exact h)
theorem synG : Tryz.prog.globalNamed "strconv.ErrSyntax" = some 2 := by kernel_rfl
theorem rngG : Tryz.prog.globalNamed "strconv.ErrRange" = some 3 := by kernel_rfl
theorem lay_of (hf : (L.filter fun x => x.1.length == 28) = [powVar]) (hs : (L.filter fun x => x.1.length == 17) = [synVar]) (hr : (L.filter fun x => x.1.length == 16) = [rngVar]) (h : laidMetH Tryz.prog L W) : Lay9 W := by
 refine ⟨fun i hi => ?_, ?_, ?_⟩
 ·exact pow_of hf h i hi
 ·have h1 := h.filter fun x => x.1.length == 17
  rw [hs, MakeChecks.laidMetH_plain _ _ _ (by kernel_rfl)] at h1
  obtain ⟨a, s, hv, _⟩ := laid_sentinel h1 synG (ti := 123) (by kernel_rfl) Tryz.underlying123 row9 Tryz.underlying325 Tryz.underlying327 rfl rfl Tryz.underlying9 (by kernel_rfl) (by kernel_rfl)
  exact ⟨_, _, by show W.cell? _ = _; simpa using World.var?_cell synG hv 0⟩
 ·have h1 := h.filter fun x => x.1.length == 16
  rw [hr, MakeChecks.laidMetH_plain _ _ _ (by kernel_rfl)] at h1
  obtain ⟨a, s, hv, _⟩ := laid_sentinel h1 rngG (ti := 123) (by kernel_rfl) Tryz.underlying123 row9 Tryz.underlying325 Tryz.underlying327 rfl rfl Tryz.underlying9 (by kernel_rfl) (by kernel_rfl)
  exact ⟨_, _, by show W.cell? _ = _; simpa using World.var?_cell rngG hv 0⟩
section
variable {H : Type} {enc : TypeId × Value → H} {W : World} {sp : Nat → Bool} {held : Bool}
theorem string_arg {v : Value} {d : DataW H} (hv : Value.okWide Tryz.prog W r b0 9 v) (h : DataW.Trod enc Tryz.prog W 0 sp held 9 v d p) (hw : ∀ n ∈ d.weights Tryz.prog 9, n ≤ reachBytes) :
  ∃ x : Bt, v = .string ⟨x.toArray⟩ ∧ x.length ≤ 1152921504606846976 := by
 obtain ⟨s, rfl⟩ := okWide_string Tryz.underlying9 hv
 obtain ⟨fuel, hf⟩ := h
 obtain ⟨s', h1, h2, _⟩ := DataW.trod_string Tryz.underlying9 hf
 cases h1
 cases h2
 refine ⟨s.data.toList, by cases s; rfl, ?_⟩
 have := hw s.data.toList.length (by rw [DataW.weights]; simp)
 unfold reachBytes at this
 omega
end
end
end Go.Proofs.YtjogffchdejabaaGreatDoor
