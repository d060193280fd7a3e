/- Parts. -/
import Derived.Test.YtjogffchdejabaaGreatDoorRows
import Derived.LaidSub
import Derived.LaidMore
import Derived.Lib.LaidTab
import Derived.Lib.LaidU8
import Derived.Test.YtjogffchdejabaaGreatDoorPt3
import Derived.Test.YtjogffchdejabaaGreatDoorPt4
import Derived.Test.YtjogffchdejabaaGreatDoorPt7
import Derived.Test.YtjogffchdejabaaGreatDoorPt8
import Derived.Test.YtjogffchdejabaaGreatDoorPt9
import Derived.Test.YtjogffchdejabaaGreatDoorPt10
import Derived.Test.YtjogffchdejabaaGreatDoorPt20
set_option linter.unusedVariables false
set_option linter.unusedSimpArgs false
set_option maxHeartbeats 4000000
set_option maxRecDepth 100000
namespace Go.Proofs.YtjogffchdejabaaGreatDoor
open Go.RowKit Go.Lib
theorem works_p : Pure E.P 17 [] (.bool true) := kO (Ev.works_run default).1 rfl fun G w vs hr hm => by
 rw [RepOL] at hr
 subst hr
 exact (Ev.works_run w).2.mono fun e w' ⟨h1, h2, h3, h4, h5, h6⟩ => ⟨h1, ⟨h2, h3, h4, h5, h6⟩⟩
theorem num_p (n : Int) : Pure E.P 16 [.int .i64 n] (.int .i64 n) := by
 refine fnA Tryz.func16 Tryz.ntmps16 ?_
 refine run ?_; refine aoR fun _ => ?_
 refine run ?_; refine aoR fun _ => ?_
 refine run ?_; rotate_left
 all_goals exact xZ rfl rfl
set_option maxRecDepth 100000
open Go.RowKit Go.Lib
theorem zL {α : Type} {l m : List α} {d : α} {i : Nat} (h : l.getD i d ≠ m.getD i d) : ¬ l = m := fun e => h (by rw [e])
theorem bW {l m : List Stp} {i : Nat} (hl : i < l.length) (hm : i < m.length) (h : l.take i = m.take i) (e : l.getD i default = m.getD i default) : l.take (i + 1) = m.take (i + 1) := by
 rw [vL l default i hl, vL m default i hm, h, e]
theorem aU {l m : Ts} {i : Nat} (hl : i < l.length) (hm : i < m.length) (h : l.take i = m.take i) (e : l.getD i default = m.getD i default) : l.take (i + 1) = m.take (i + 1) := by
 rw [vL l default i hl, vL m default i hm, h, e]
set_option maxHeartbeats 4000000 in
theorem equal_p (l m : List Stp) (hl : l.length ≤ 1152921504606846976) (hm : m.length ≤ 1152921504606846976) : Pure E.P 77 [.d (stsTV l), .d (stsTV m)] (.bool (decide (l = m))) := by
 refine fnA Tryz.func77 Tryz.ntmps77 ?_
 by_cases h0 : l.length = m.length
 ·refine run ?_
  refine aoR fun _ => ?_; refine run ?_
  refine aoR fun _ => ?_; refine run ?_
  refine cnd ?_ ?_
  refine xY (fun _ => ?_); (try omega)
  refine wY (fun _ => ?_); (try omega)
  refine run ?_; refine aoR fun _ => ?_
  refine run ?_; rotate_left
  all_goals try omega
  refine uW (X := Nat) (fun i => tmL [(0, .d (stsTV l)), (1, .d (stsTV m)), (11, .d (stsTV l)), (12, .int .i64 l.length), (13, .int .i64 i)]) (fun _ => stL []) (fun i => i ≤ l.length ∧ l.take i = m.take i) (fun i => l.length - i) 0 ⟨Nat.zero_le _, rfl⟩ (by repeat' (first | exact vY _ | exact vB _ | refine uV rfl ?_ | refine uP rfl ?_ | (refine uY rfl ?_ ?_; (simp [stsTV])) | (refine uO rfl ?_ ?_; (simp [stsTV])) | (refine uN rfl ?_ ?_; (simp [stsTV])))) leP ?_
  rintro i ⟨hi, ht⟩
  by_cases hlt : i < l.length
  ·by_cases he : l.getD (i : Int).toNat default = m.getD (i : Int).toNat default
   ·refine run ?_
    refine aoR fun _ => ?_; refine run ?_
    refine cnd ?_ ?_
    refine uB fun _ => ?_; try omega
    refine run ?_; refine aoR fun _ => ?_
    refine run ?_
    refine uF (E := E) ?_ (fun _ => ?_); exact rfl
    refine run ?_
    ((apply fK (l.getD (i : Int).toNat default) (m.getD (i : Int).toNat default)); exact rfl; exact rfl)
    refine run ?_; refine cnd ?_ ?_
    refine xY (fun _ => ?_); (try omega)
    refine run ?_; refine aoR fun _ => ?_
    refine run ?_; rotate_left
    refine wY (fun _ => ?_); (try omega)
    refine run ?_; refine aoR fun _ => ?_
    refine run ?_; rotate_left
    refine uC fun _ => ?_; try omega
    all_goals first
     | exact uT (i + 1) ⟨by omega, bW hlt (by omega) ht he⟩ (by omega) leP leP
     | (exfalso; contradiction)
     | (exfalso; omega)
   ·have e : decide (l = m) = false := decide_eq_false (zL (d := default) (i := (i : Int).toNat) he)
    rw [e]
    refine run ?_; refine aoR fun _ => ?_
    refine run ?_; refine cnd ?_ ?_
    refine uB fun _ => ?_; try omega
    refine run ?_; refine aoR fun _ => ?_
    refine run ?_
    refine uF (E := E) ?_ (fun _ => ?_); exact rfl
    refine run ?_
    ((apply fK (l.getD (i : Int).toNat default) (m.getD (i : Int).toNat default)); exact rfl; exact rfl)
    refine run ?_; refine cnd ?_ ?_
    refine xY (fun _ => ?_); (try omega)
    refine run ?_; refine aoR fun _ => ?_
    refine run ?_; rotate_left
    refine wY (fun _ => ?_); (try omega)
    refine run ?_; refine aoR fun _ => ?_
    refine run ?_; rotate_left
    refine uC fun _ => ?_; try omega
    all_goals first
     | exact uQ rfl rfl
     | (exfalso; contradiction)
     | (exfalso; omega)
  ·have hil : i = l.length := by omega
   subst hil
   have e : decide (l = m) = true := decide_eq_true (by rwa [List.take_length, h0, List.take_length] at ht)
   rw [e]
   refine run ?_; refine aoR fun _ => ?_
   refine run ?_; refine cnd ?_ ?_
   refine uB fun _ => ?_; try omega
   refine uC fun _ => ?_; try omega
   refine run ?_; refine aoR fun _ => ?_
   refine run ?_; rotate_left
   all_goals first | exact uQ rfl rfl | (exfalso; omega)
 ·have e : decide (l = m) = false := decide_eq_false fun e => h0 (by rw [e])
  rw [e]
  refine run ?_; refine aoR fun _ => ?_
  refine run ?_; refine aoR fun _ => ?_
  refine run ?_; refine cnd ?_ ?_
  refine xY (fun _ => ?_); (try omega)
  refine run ?_; refine aoR fun _ => ?_
  refine run ?_; rotate_left
  refine wY (fun _ => ?_); (try omega)
  all_goals first | exact uQ rfl rfl | (exfalso; omega)
set_option maxHeartbeats 1000000 in
theorem same1_p (l m : List Stp) (hl : l.length ≤ 1152921504606846976) (hm : m.length ≤ 1152921504606846976) : Pure E.P 76 [.d (stsTV l), .d (stsTV m)] (.bool (decide (l = m))) := by
 have c := equal_p l m hl hm
 refine fnA Tryz.func76 Tryz.ntmps76 ?_
 refine run ?_; refine aoR fun _ => ?_
 refine run ?_; refine aoR fun _ => ?_
 refine run ?_
 apply uD; exact rfl; exact .fn _ _ _; exact rfl; exact c
 refine run ?_; rotate_left
 all_goals exact uQ rfl rfl
theorem bQ {a : Ts} {i : Nat} (ha : ∀ l ∈ a, l.length ≤ 1152921504606846976) (h : i < a.length) : (a.getD i default).length ≤ 1152921504606846976 := ha _ (vM h)
set_option maxHeartbeats 4000000 in
theorem equalF_p (a b : Ts) (hl : a.length ≤ 1152921504606846976) (hm : b.length ≤ 1152921504606846976) (ha : ∀ l ∈ a, l.length ≤ 1152921504606846976) (hb : ∀ l ∈ b, l.length ≤ 1152921504606846976) :
  Pure E.P 75 [.d (.sl 1 (a.map catRowT)), .d (.sl 1 (b.map catRowT)), .fn 76 [] []] (.bool (decide (a = b))) := by
 refine fnA Tryz.func75 Tryz.ntmps75 ?_
 by_cases h0 : a.length = b.length
 ·refine run ?_
  refine aoR fun _ => ?_; refine run ?_
  refine aoR fun _ => ?_; refine run ?_
  refine cnd ?_ ?_
  refine xY (fun _ => ?_); (try omega)
  refine wY (fun _ => ?_); (try omega)
  refine run ?_; refine aoR fun _ => ?_
  refine run ?_; rotate_left
  all_goals try omega
  refine uW (X := Nat) (fun i => tmL [(1, .d (.sl 1 (b.map catRowT))), (2, .fn 76 [] []), (15, .d (.sl 1 (a.map catRowT))), (16, .int .i64 a.length), (17, .int .i64 i)]) (fun _ => stL []) (fun i => i ≤ a.length ∧ a.take i = b.take i) (fun i => a.length - i) 0 ⟨Nat.zero_le _, rfl⟩ (by repeat' (first | exact vY _ | exact vB _ | refine uV rfl ?_ | refine uP rfl ?_ | (refine uY rfl ?_ ?_; (simp)) | (refine uO rfl ?_ ?_; (simp)) | (refine uN rfl ?_ ?_; (simp)))) leP ?_
  rintro i ⟨hi, ht⟩
  by_cases hlt : i < a.length
  ·have c := same1_p (a.getD (i : Int).toNat default) (b.getD (i : Int).toNat default) (bQ ha hlt) (bQ hb (show i < b.length by omega))
   by_cases he : a.getD (i : Int).toNat default = b.getD (i : Int).toNat default
   ·rw [decide_eq_true he] at c
    refine run ?_; refine aoR fun _ => ?_
    refine run ?_; refine cnd ?_ ?_
    refine uB fun _ => ?_; try omega
    refine run ?_; refine aoR fun _ => ?_
    refine run ?_; refine aoR fun _ => ?_
    refine run ?_; refine aoR fun _ => ?_
    refine run ?_
    apply uD; exact rfl; exact .fn _ _ _; exact rfl; exact c
    refine run ?_; refine cnd ?_ ?_; refine zM ?_
    exact wR
    refine wD ?_; refine vI ?_; refine run ?_; refine aoR fun _ => ?_
    refine run ?_; rotate_left
    refine uC fun _ => ?_; try omega
    all_goals exact uT (i + 1) ⟨by omega, aU hlt (by omega) ht he⟩ (by omega) leP leP
   ·have e : decide (a = b) = false := decide_eq_false (zL (d := default) (i := (i : Int).toNat) he)
    rw [e]
    rw [decide_eq_false he] at c
    refine run ?_; refine aoR fun _ => ?_
    refine run ?_; refine cnd ?_ ?_
    refine uB fun _ => ?_; try omega
    refine run ?_; refine aoR fun _ => ?_
    refine run ?_; refine aoR fun _ => ?_
    refine run ?_; refine aoR fun _ => ?_
    refine run ?_
    apply uD; exact rfl; exact .fn _ _ _; exact rfl; exact c
    refine run ?_; refine cnd ?_ ?_; refine zM ?_; refine xL ?_; refine run ?_; refine aoR fun _ => ?_
    refine run ?_; rotate_left
    refine wD ?_
    exact wS
    refine uC fun _ => ?_; try omega
    all_goals exact uQ rfl rfl
  ·have hil : i = a.length := by omega
   subst hil
   have e : decide (a = b) = true := decide_eq_true (by rwa [List.take_length, h0, List.take_length] at ht)
   rw [e]
   refine run ?_; refine aoR fun _ => ?_
   refine run ?_; refine cnd ?_ ?_
   refine uB fun _ => ?_; try omega
   refine uC fun _ => ?_; try omega
   refine run ?_; refine aoR fun _ => ?_
   refine run ?_; rotate_left
   all_goals first | exact uQ rfl rfl | (exfalso; omega)
 ·have e : decide (a = b) = false := decide_eq_false fun e => h0 (by rw [e])
  rw [e]
  refine run ?_; refine aoR fun _ => ?_
  refine run ?_; refine aoR fun _ => ?_
  refine run ?_; refine cnd ?_ ?_
  refine xY (fun _ => ?_); (try omega)
  refine run ?_; refine aoR fun _ => ?_
  refine run ?_; rotate_left
  refine wY (fun _ => ?_); (try omega)
  all_goals first | exact uQ rfl rfl | (exfalso; omega)
set_option maxHeartbeats 1000000 in
theorem mV (a b : Ts) (hl : a.length ≤ 1152921504606846976) (hm : b.length ≤ 1152921504606846976) (ha : ∀ l ∈ a, l.length ≤ 1152921504606846976) (hb : ∀ l ∈ b, l.length ≤ 1152921504606846976) :
  Pure E.P 35 [testOV a, testOV b] (.bool (decide (a = b))) := by
 have f2 : Frozen 2 := ⟨trivial⟩
 have f3 : Frozen 3 := ⟨trivial⟩
 have c := equalF_p a b hl hm ha hb
 refine fnA Tryz.func35 Tryz.ntmps35 ?_
 refine run ?_; refine aoR fun _ => ?_
 refine run ?_; refine aoR fun _ => ?_
 refine run ?_
 apply uD; exact rfl; exact .fn _ _ _; exact rfl; exact c
 refine run ?_; rotate_left
 all_goals exact uQ rfl rfl
set_option maxHeartbeats 4000000 in
theorem rsame_p (a b : Ts) (hl : a.length ≤ 1152921504606846976) (hm : b.length ≤ 1152921504606846976) (ha : ∀ l ∈ a, l.length ≤ 1152921504606846976) (hb : ∀ l ∈ b, l.length ≤ 1152921504606846976) :
  Pure E.P 19 [testOV a, testOV b] (.bool (decide (a = b))) := by
 have f2 : Frozen 2 := ⟨trivial⟩
 have f3 : Frozen 3 := ⟨trivial⟩
 refine fnA Tryz.func19 Tryz.ntmps19 ?_
 by_cases h0 : a.length = b.length
 ·refine run ?_
  refine aoR fun _ => ?_; refine run ?_
  refine aoR fun _ => ?_; refine run ?_
  refine cnd ?_ ?_
  refine xY (fun _ => ?_); (try omega)
  refine wY (fun _ => ?_); (try omega)
  refine run ?_; refine aoR fun _ => ?_
  refine run ?_; rotate_left
  all_goals try omega
  refine uW (X := Nat) (fun i => tmL [(2, .d (.pt [.sl 1 (a.map catRowT)] 0)), (3, .d (.pt [.sl 1 (b.map catRowT)] 0)), (5, .int .i64 i)]) (fun _ => stL []) (fun i => i ≤ a.length ∧ a.take i = b.take i) (fun i => a.length - i) 0 ⟨Nat.zero_le _, rfl⟩ leP leP ?_
  rintro i ⟨hi, ht⟩
  by_cases hlt : i < a.length
  ·have h1 : (a.getD (i : Int).toNat default).length ≤ 1152921504606846976 := bQ ha hlt
   have h2 : (b.getD (i : Int).toNat default).length ≤ 1152921504606846976 := bQ hb (show i < b.length by omega)
   by_cases hlen : (a.getD (i : Int).toNat default).length = (b.getD (i : Int).toNat default).length
   ·refine run ?_
    refine aoR fun _ => ?_; refine run ?_
    refine cnd ?_ ?_
    refine uB fun _ => ?_; try omega
    refine run ?_
    refine uF (E := E) ?_ (fun _ => ?_); exact rfl
    refine run ?_; refine cnd ?_ ?_
    refine xY (fun _ => ?_); (try omega)
    refine wY (fun _ => ?_); (try omega)
    refine run ?_; refine aoR fun _ => ?_
    refine run ?_; rotate_left
    refine uC fun _ => ?_; try omega
    all_goals try omega
    refine uW (X := Nat) (fun k => tmL [(2, .d (.pt [.sl 1 (a.map catRowT)] 0)), (3, .d (.pt [.sl 1 (b.map catRowT)] 0)), (5, .int .i64 i), (6, .int .i64 k)]) (fun _ => stL []) (fun k => k ≤ (a.getD (i : Int).toNat default).length ∧ (a.getD (i : Int).toNat default).take k = (b.getD (i : Int).toNat default).take k) (fun k => (a.getD (i : Int).toNat default).length - k) 0 ⟨Nat.zero_le _, rfl⟩ leP leP ?_
    rintro k ⟨hk, hkt⟩
    by_cases hlk : k < (a.getD (i : Int).toNat default).length
    ·by_cases he : (a.getD (i : Int).toNat default).getD (k : Int).toNat default = (b.getD (i : Int).toNat default).getD (k : Int).toNat default
     ·refine run ?_
      refine aoR fun _ => ?_; refine run ?_
      refine cnd ?_ ?_
      refine uB fun _ => ?_; try omega
      refine run ?_
      refine uF (E := E) ?_ (fun _ => ?_); exact rfl
      refine run ?_
      ((apply fK ((a.getD (i : Int).toNat default).getD (k : Int).toNat default) ((b.getD (i : Int).toNat default).getD (k : Int).toNat default)); exact rfl; exact rfl)
      refine run ?_; refine cnd ?_ ?_
      refine xY (fun _ => ?_); (try omega)
      refine run ?_; refine aoR fun _ => ?_
      refine run ?_; rotate_left
      refine wY (fun _ => ?_); (try omega)
      refine run ?_; refine aoR fun _ => ?_
      refine run ?_; rotate_left
      refine uC fun _ => ?_; try omega
      all_goals first
       | exact uT (k + 1) ⟨by omega, bW hlk (by omega) hkt he⟩ (by omega) leP leP
       | (exfalso; contradiction)
       | (exfalso; omega)
     ·have e : decide (a = b) = false := decide_eq_false (zL (d := default) (i := (i : Int).toNat) (zL (d := default) (i := (k : Int).toNat) he))
      rw [e]
      refine run ?_; refine aoR fun _ => ?_
      refine run ?_; refine cnd ?_ ?_
      refine uB fun _ => ?_; try omega
      refine run ?_
      refine uF (E := E) ?_ (fun _ => ?_); exact rfl
      refine run ?_
      ((apply fK ((a.getD (i : Int).toNat default).getD (k : Int).toNat default) ((b.getD (i : Int).toNat default).getD (k : Int).toNat default)); exact rfl; exact rfl)
      refine run ?_; refine cnd ?_ ?_
      refine xY (fun _ => ?_); (try omega)
      refine run ?_; refine aoR fun _ => ?_
      refine run ?_; rotate_left
      refine wY (fun _ => ?_); (try omega)
      refine run ?_; refine aoR fun _ => ?_
      refine run ?_; rotate_left
      refine uC fun _ => ?_; try omega
      all_goals first
       | exact uQ rfl rfl
       | (exfalso; contradiction)
       | (exfalso; omega)
    ·have hkl : k = (a.getD (i : Int).toNat default).length := by omega
     have he : (a.getD (i : Int).toNat default) = (b.getD (i : Int).toNat default) := by rwa [hkl, List.take_length, hlen, List.take_length] at hkt
     refine run ?_; refine aoR fun _ => ?_
     refine run ?_; refine cnd ?_ ?_
     refine uB fun _ => ?_; try omega
     refine uC fun _ => ?_; try omega
     refine run ?_; refine aoR fun _ => ?_
     refine run ?_; rotate_left
     all_goals first
      | exact uT (i + 1) ⟨by omega, aU hlt (by omega) ht he⟩ (by omega) leP leP
      | (exfalso; omega)
   ·have e : decide (a = b) = false := decide_eq_false (zL (d := default) (i := (i : Int).toNat) fun h => hlen (by rw [h]))
    rw [e]
    refine run ?_; refine aoR fun _ => ?_
    refine run ?_; refine cnd ?_ ?_
    refine uB fun _ => ?_; try omega
    refine run ?_
    refine uF (E := E) ?_ (fun _ => ?_); exact rfl
    refine run ?_; refine cnd ?_ ?_
    refine xY (fun _ => ?_); (try omega)
    refine run ?_; refine aoR fun _ => ?_
    refine run ?_; rotate_left
    refine wY (fun _ => ?_); (try omega)
    refine uC fun _ => ?_; try omega
    all_goals first | exact uQ rfl rfl | (exfalso; omega)
  ·have hil : i = a.length := by omega
   subst hil
   have e : decide (a = b) = true := decide_eq_true (by rwa [List.take_length, h0, List.take_length] at ht)
   rw [e]
   refine run ?_; refine aoR fun _ => ?_
   refine run ?_; refine cnd ?_ ?_
   refine uB fun _ => ?_; try omega
   refine uC fun _ => ?_; try omega
   refine run ?_; refine aoR fun _ => ?_
   refine run ?_; rotate_left
   all_goals first | exact uQ rfl rfl | (exfalso; omega)
 ·have e : decide (a = b) = false := decide_eq_false fun e => h0 (by rw [e])
  rw [e]
  refine run ?_; refine aoR fun _ => ?_
  refine run ?_; refine aoR fun _ => ?_
  refine run ?_; refine cnd ?_ ?_
  refine xY (fun _ => ?_); (try omega)
  refine run ?_; refine aoR fun _ => ?_
  refine run ?_; rotate_left
  refine wY (fun _ => ?_); (try omega)
  all_goals first | exact uQ rfl rfl | (exfalso; omega)
set_option maxRecDepth 100000
open Go.RowKit Go.Lib
set_option maxHeartbeats 4000000 in
theorem rprint_p (t : Ts) (hc : checkT t = 0) (hn : n32T t) : Pure E.P 36 [testOV t] (.bs (printT t)) := by
 have f1 : Frozen 1 := ⟨trivial⟩
 obtain ⟨h1, h4, hok⟩ := cK hc
 have hlen : ∀ i, (printT (t.take i)).length ≤ 12180 := fun i => by
  have := aX (t.take i) fun x hx => ⟨(hok x (List.mem_of_mem_take hx)).1, fun s hs => ⟨(hok x (List.mem_of_mem_take hx)).2 s hs, hn x (List.mem_of_mem_take hx) s hs⟩⟩
  rw [List.length_take] at this
  omega
 refine fnA Tryz.func36 Tryz.ntmps36 ?_
 refine run ?_; refine aoR fun _ => ?_
 refine run ?_; refine aoR fun _ => ?_
 refine run ?_; refine aoR fun _ => ?_
 refine run ?_; rotate_left
 refine uW (X := Nat) (fun i => tmL [(1, .d (.pt [.sl 1 (t.map catRowT)] 0)), (3, .bs (printT (t.take i))), (4, .int .i64 i)]) (fun _ => stL []) (fun i => i ≤ t.length) (fun i => t.length - i) 0 (Nat.zero_le _) leP leP ?_
 intro i hi
 have l0 := hlen i
 by_cases hlt : i < t.length
 ·obtain ⟨l, hl⟩ : ∃ l, l = t.getD (i : Int).toNat default := ⟨_, rfl⟩
  have hmem : t.getD (i : Int).toNat default ∈ t := vM (k := (i : Int).toNat) (by simpa using hlt)
  have h16 := (hok _ hmem).1
  have e0 : printT (t.take i) ++ (wHart ++ [10]) ++ linesB ((t.getD (i : Int).toNat default).take 0) = printT (t.take i) ++ [104, 97, 114, 116, 10] := by simp [linesB, wHart]
  have hok2 : ∀ s ∈ t.getD (i : Int).toNat default, s.right = true ∧ s.n32 := fun s hs => ⟨(hok _ hmem).2 s hs, hn _ hmem s hs⟩
  refine run ?_; refine aoR fun _ => ?_
  refine run ?_; refine cnd ?_ ?_
  refine uB fun _ => ?_; try omega
  refine run ?_; refine aoR fun _ => ?_
  refine run ?_
  apply uJ; exact rfl; exact rfl; (((simp only [List.length_append, List.length_cons, List.length_nil]); omega))
  refine run ?_; refine aoR fun _ => ?_
  refine run ?_; rotate_left
  refine uC fun _ => ?_; try omega
  all_goals try omega
  refine uW (X := Nat) (fun k => tmL [(1, .d (.pt [.sl 1 (t.map catRowT)] 0)), (3, .bs (printT (t.take i) ++ (wHart ++ [10]) ++ linesB ((t.getD (i : Int).toNat default).take k))), (4, .int .i64 i), (5, .int .i64 k)]) (fun _ => stL []) (fun k => k ≤ (t.getD (i : Int).toNat default).length) (fun k => (t.getD (i : Int).toNat default).length - k) 0 (Nat.zero_le _) (by rw [e0]; exact leP) leP ?_
  intro k hk
  have l1 : (printT (t.take i) ++ (wHart ++ [10]) ++ linesB ((t.getD (i : Int).toNat default).take k)).length ≤ 20000 := by
   have h5 := aI ((t.getD (i : Int).toNat default).take k) fun s hs => hok2 s (List.mem_of_mem_take hs)
   rw [List.length_take] at h5
   simp only [List.length_append, wHart, List.length_cons, List.length_nil]
   unfold linesB
   omega
  by_cases hlk : k < (t.getD (i : Int).toNat default).length
  ·have hs := hok2 ((t.getD (i : Int).toNat default).getD (k : Int).toNat default) (vM (k := (k : Int).toNat) (by simpa using hlk))
   have c := rline_p itoa_p oF _ hs.1 hs.2
   have ll := eF hs.1 hs.2
   have l2 : (printT (t.take i) ++ (wHart ++ [10]) ++ linesB ((t.getD (i : Int).toNat default).take k) ++ lineB ((t.getD (i : Int).toNat default).getD (k : Int).toNat default)).length ≤ 20200 := by rw [List.length_append]; omega
   have lw : wHart.length = 4 := rfl
   have l3 := l1
   simp only [List.length_append, List.length_cons, List.length_nil] at l3
   have e1 : printT (t.take i) ++ (wHart ++ [10]) ++ linesB ((t.getD (i : Int).toNat default).take (k + 1)) = printT (t.take i) ++ (wHart ++ [10]) ++ linesB ((t.getD (i : Int).toNat default).take k) ++ lineB ((t.getD (i : Int).toNat default).getD (k : Int).toNat default) ++ [10] := by
    rw [dB _ k hlk]; simp
   refine run ?_; refine aoR fun _ => ?_
   refine run ?_; refine cnd ?_ ?_
   refine uB fun _ => ?_; try omega
   refine run ?_; refine aoR fun _ => ?_
   refine run ?_
   apply uD; exact rfl; exact .fn _ _ _; exact rfl; exact c
   apply uJ; exact rfl; exact rfl; (omega)
   apply uJ; exact rfl; exact rfl; (((simp only [List.length_append, List.length_cons, List.length_nil]); omega))
   refine run ?_; refine aoR fun _ => ?_
   refine run ?_; rotate_left
   refine uC fun _ => ?_; try omega
   all_goals first
    | exact uT (k + 1) (by omega) (by omega) (by rw [e1]; exact leP) leP
    | (exfalso; omega)
  ·have hkl : k = (t.getD (i : Int).toNat default).length := by omega
   have e1 : printT (t.take (i + 1)) = printT (t.take i) ++ (wHart ++ [10]) ++ linesB ((t.getD (i : Int).toNat default).take k) := by
    rw [hkl, List.take_length, dA t i hlt]
    simp [threadB, linesB]
    rfl
   refine run ?_; refine aoR fun _ => ?_
   refine run ?_; refine cnd ?_ ?_
   refine uB fun _ => ?_; try omega
   refine uC fun _ => ?_; try omega
   refine run ?_; refine aoR fun _ => ?_
   refine run ?_; rotate_left
   all_goals first
    | exact uT (i + 1) (by omega) (by omega) (by rw [e1]; exact leP) leP
    | (exfalso; omega)
 ·have hil : i = t.length := by omega
  subst hil
  rw [List.take_length]
  refine run ?_; refine aoR fun _ => ?_
  refine run ?_; refine cnd ?_ ?_
  refine uB fun _ => ?_; try omega
  refine uC fun _ => ?_; try omega
  refine run ?_; refine aoR fun _ => ?_
  refine run ?_; rotate_left
  all_goals first | exact uK rfl rfl | (exfalso; omega)
def prodL : List Int → Int
 | [] => 1
 | a :: l => a * prodL l
def mulC (n f : Int) : Int := if n ≤ 10000 then n * f else n
theorem aY {n f : Int} (hn : 1 ≤ n) (hf : 1 ≤ f) : n ≤ n * f := by
 have := Int.mul_le_mul_of_nonneg_left hf (by omega : 0 ≤ n)
 rwa [Int.mul_one] at this
theorem capI_mulC {n f : Int} (hn : 1 ≤ n) (hf : 1 ≤ f) : capI (mulC n f) = capI (n * f) := by
 have := aY hn hf
 by_cases h : n ≤ 10000
 ·have e : mulC n f = n * f := if_pos h
  rw [e]
 ·have e : mulC n f = n := if_neg h
  rw [e]
  unfold capI
  split <;> split <;> omega
theorem yU {x f : Int} (hx : 1 ≤ x) (hf : 1 ≤ f) : capI (capI x * f) = capI (x * f) := by
 by_cases h : 10001 < x
 ·have h1 := aY hx hf
  have h2 := aY (n := 10001) (by decide) hf
  have e : capI x = 10001 := if_pos h
  rw [e]
  unfold capI
  rw [if_pos (by omega : 10001 < x * f)]
  split <;> omega
 ·have e : capI x = x := if_neg h
  rw [e]
theorem aF (a b : List Int) : prodL (a ++ b) = prodL a * prodL b := by
 induction a with
 | nil => simp [prodL]
 | cons x a ih => simp [prodL, ih, Int.mul_assoc]
theorem cD : ∀ l : List Int, (∀ f ∈ l, 1 ≤ f) → 1 ≤ prodL l
 | [], _ => by decide
 | a :: l, h => by
  have h1 := h a (by simp)
  have h2 := cD l fun f hf => h f (by simp [hf])
  have := aY h1 h2
  simp only [prodL]; omega
theorem nJ : ∀ (l : List Int) (n : Int), 1 ≤ n → (∀ f ∈ l, 1 ≤ f) → capI (l.foldl mulC n) = capI (n * prodL l) ∧ 1 ≤ l.foldl mulC n
 | [], n, hn, _ => by simp [prodL, hn]
 | a :: l, n, hn, h => by
  have ha := h a (by simp)
  have hp := cD l fun f hf => h f (by simp [hf])
  have hm := aY hn ha
  have h1 : 1 ≤ mulC n a := by unfold mulC; split <;> omega
  obtain ⟨e1, e2⟩ := nJ l (mulC n a) h1 fun f hf => h f (by simp [hf])
  refine ⟨?_, e2⟩
  rw [List.foldl_cons, e1, prodL, ← Int.mul_assoc, ← yU h1 hp, capI_mulC hn ha, yU (by omega) hp]
def cntS (l : List Stp) (v : Int) : Nat := (l.filter fun s => s.sts && decide (s.var = v)).length
def fac : Nat → Int
 | 0 => 1
 | n + 1 => fac n * ((n : Int) + 1)
theorem aL : ∀ n, 1 ≤ fac n
 | 0 => by decide
 | n + 1 => by
  have := aY (aL n) (f := (n : Int) + 1) (by omega)
  have := aL n
  simp only [fac]; omega
def cnts (l : List Stp) : List Int := [(cntS l 0 : Int), (cntS l 1 : Int), (cntS l 2 : Int), (cntS l 3 : Int)]
def facP (l : List Stp) : Int := fac (cntS l 0) * fac (cntS l 1) * fac (cntS l 2) * fac (cntS l 3)
theorem dI {a b : Int} (ha : 1 ≤ a) (hb : 1 ≤ b) : 1 ≤ a * b := by have := aY ha hb; omega
theorem eO (l : List Stp) : 1 ≤ facP l := dI (dI (dI (aL _) (aL _)) (aL _)) (aL _)
theorem gI (l : List Stp) (s : Stp) (v : Int) : cntS (l ++ [s]) v = cntS l v + (if s.sts = true ∧ s.var = v then 1 else 0) := by
 unfold cntS
 rw [List.filter_append, List.length_append]
 by_cases h : s.sts = true ∧ s.var = v
 ·simp [h.1, h.2]
 ·rw [if_neg h]
  have : (s.sts && decide (s.var = v)) = false := by
   rw [Bool.eq_false_iff]
   simpa using h
  simp [this]
theorem aC {s : Stp} (h : s.right = true) : 0 ≤ s.var ∧ s.var ≤ 3 := by cases zJ h <;> simp <;> omega
theorem sStep_eq (l : List Stp) (s : Stp) (h : s.right = true) : sStep (cnts l, capI (facP l)) s = (cnts (l ++ [s]), capI (facP (l ++ [s]))) := by
 have hv := aC h
 unfold sStep
 cases hs : s.sts with
 | false =>
  have e : ∀ v, cntS (l ++ [s]) v = cntS l v := fun v => by rw [gI, if_neg (by simp [hs])]; rfl
  simp [cnts, facP, e]
 | true =>
  have e : ∀ v, cntS (l ++ [s]) v = cntS l v + (if s.var = v then 1 else 0) := fun v => by rw [gI]; simp [hs]
  have p := eO l
  dsimp only [cond_true]
  rcases (by omega : s.var = 0 ∨ s.var = 1 ∨ s.var = 2 ∨ s.var = 3) with q | q | q | q
  all_goals
   rw [q] at e ⊢
   simp only [cnts, facP, e, if_true, Int.reduceEq, if_false, Nat.add_zero, fac, Int.toNat_zero, Int.toNat_one, Int.reduceToNat, List.getD_cons_zero, List.getD_cons_succ, List.set_cons_zero, List.set_cons_succ]
   unfold facP at p
   rw [yU p (by omega)]
   refine Prod.ext ?_ ?_
   ·simp
   ·congr 1
    simp only [Int.mul_comm, Int.mul_left_comm, Int.mul_assoc, Int.natCast_add, Int.cast_ofNat_Int]
theorem oC : ∀ (l2 l1 : List Stp), (∀ s ∈ l2, s.right = true) → l2.foldl sStep (cnts l1, capI (facP l1)) = (cnts (l1 ++ l2), capI (facP (l1 ++ l2)))
 | [], l1, _ => by simp
 | s :: l2, l1, h => by
  rw [List.foldl_cons, sStep_eq l1 s (h s (by simp)), oC l2 (l1 ++ [s]) fun x hx => h x (by simp [hx])]
  simp
theorem lJ (l : List Stp) (h : ∀ s ∈ l, s.right = true) : sAll l = (cnts l, capI (facP l)) := by
 have := oC l [] h
 rw [List.nil_append] at this
 exact this
def lfac (m : List Int) (s : Stp) : Int := if s.sts then m.getD s.var.toNat 0 else m.getD s.var.toNat 0 + 1
def lfacs (m : List Int) (l : List Stp) : List Int := (l.filter Stp.lds).map (lfac m)
theorem nF (m : List Int) : ∀ (l : List Stp) (x : Int), 1 ≤ x → (∀ s ∈ l, s.lds = true → 1 ≤ lfac m s) → l.foldl (lStep m) (capI x) = capI (x * prodL (lfacs m l))
 | [], x, _, _ => by simp [lfacs, prodL]
 | s :: l, x, hx, h => by
  rw [List.foldl_cons]
  cases hl : s.lds with
  | false =>
   have e1 : lStep m (capI x) s = capI x := by simp [lStep, hl]
   have e2 : lfacs m (s :: l) = lfacs m l := by simp [lfacs, hl]
   rw [e1, e2]
   exact nF m l x hx fun y hy => h y (by simp [hy])
  | true =>
   have hf := h s (by simp) hl
   have e1 : lStep m (capI x) s = capI (x * lfac m s) := by
    rw [← yU hx hf]
    unfold lStep lfac
    cases hs : s.sts <;> simp [hl]
   have e2 : lfacs m (s :: l) = lfac m s :: lfacs m l := by simp [lfacs, hl]
   rw [e1, e2, nF m l _ (dI hx hf) fun y hy => h y (by simp [hy]), prodL, Int.mul_assoc]
theorem jS {l : List Stp} (h : ∀ s ∈ l, s.right = true) {s : Stp} (hs : s ∈ l) : 1 ≤ lfac (cnts l) s := by
 have hv := aC (h s hs)
 have g : ∀ v, (0 : Int) ≤ (cntS l v : Int) := fun v => by omega
 have c : s.sts = true → 1 ≤ cntS l s.var := fun h2 => by
  unfold cntS
  have : s ∈ l.filter fun x => x.sts && decide (x.var = s.var) := List.mem_filter.2 ⟨hs, by simp [h2]⟩
  exact List.length_pos_of_mem this
 unfold lfac
 rcases (by omega : s.var = 0 ∨ s.var = 1 ∨ s.var = 2 ∨ s.var = 3) with q | q | q | q
 all_goals
  rw [q] at c ⊢
  split
  ·rename_i h2
   have := c h2
   simp [cnts]
   omega
  ·simp [cnts]
   omega
def upto (n : Nat) : List Int := (List.range n).map fun i : Nat => (i : Int) + 1
theorem yO : ∀ n, prodL (upto n) = fac n
 | 0 => rfl
 | n + 1 => by
  unfold upto
  rw [List.range_succ, List.map_append, aF]
  have := yO n
  unfold upto at this
  rw [this]
  simp [prodL, fac]
theorem upto_pos (n : Nat) : ∀ f ∈ upto n, 1 ≤ f := fun f hf => by
 obtain ⟨i, _, rfl⟩ := List.mem_map.1 hf
 omega
def facL (l : List Stp) : List Int := upto (cntS l 0) ++ (upto (cntS l 1) ++ (upto (cntS l 2) ++ upto (cntS l 3)))
def refWays (t : Ts) : Int := capI ((lfacs (cnts t.flatten) t.flatten).foldl mulC ((facL t.flatten).foldl mulC 1))
theorem refWays_eq (t : Ts) (h : ∀ s ∈ t.flatten, s.right = true) : refWays t = waysT t := by
 have hp : ∀ f ∈ facL t.flatten, 1 ≤ f := fun f hf => by
  unfold facL at hf
  simp only [List.mem_append] at hf
  rcases hf with h | h | h | h <;> exact upto_pos _ f h
 have hl : ∀ f ∈ lfacs (cnts t.flatten) t.flatten, 1 ≤ f := fun f hf => by
  obtain ⟨s, hs, rfl⟩ := List.mem_map.1 hf
  exact jS h (List.mem_filter.1 hs).1
 obtain ⟨e1, e2⟩ := nJ (facL t.flatten) 1 (by decide) hp
 obtain ⟨e3, _⟩ := nJ (lfacs (cnts t.flatten) t.flatten) _ e2 hl
 have hq := cD _ hl
 have ef : 1 * prodL (facL t.flatten) = facP t.flatten := by
  unfold facL facP
  rw [aF, aF, aF, yO, yO, yO, yO, Int.one_mul]
  simp only [Int.mul_assoc]
 unfold refWays waysT
 rw [e3, ← yU e2 hq, e1, ef, yU (eO _) hq, lJ _ h]
 exact (nF _ _ _ (eO _) fun s hs hl' => jS h hs).symm
set_option maxRecDepth 100000
open Go.RowKit Go.Lib
def pre (t : Ts) (i k : Nat) : List Stp := (t.take i).flatten ++ (t.getD i default).take k
theorem dV (t : Ts) : pre t 0 0 = [] := by simp [pre]
theorem gZ (t : Ts) : pre t t.length 0 = t.flatten := by simp [pre]
theorem dW {t : Ts} {i k : Nat} (h : k < (t.getD i default).length) : pre t i (k + 1) = pre t i k ++ [(t.getD i default).getD k default] := by
 unfold pre
 rw [vL _ default k h, List.append_assoc]
theorem dX {t : Ts} {i : Nat} (h : i < t.length) : pre t (i + 1) 0 = pre t i (t.getD i default).length := by
 unfold pre
 rw [vL _ default i h]
 simp
theorem eM : ∀ (t : Ts), (∀ l ∈ t, l.length ≤ 16) → t.flatten.length ≤ 16 * t.length
 | [], _ => by simp
 | l :: t, h => by
  have := eM t fun x hx => h x (by simp [hx])
  have := h l (by simp)
  simp only [List.flatten_cons, List.length_append, List.length_cons]
  omega
theorem pre_rest {t : Ts} {i : Nat} (h : i < t.length) (k : Nat) : ∃ r, t.flatten = pre t i k ++ r := by
 refine ⟨(t.getD i default).drop k ++ (t.drop (i + 1)).flatten, ?_⟩
 unfold pre
 have e1 : t = t.take i ++ t.getD i default :: t.drop (i + 1) := by
  rw [List.getD_eq_getElem?_getD, List.getElem?_eq_getElem h, Option.getD_some]
  rw [← List.drop_eq_getElem_cons h, List.take_append_drop]
 have e2 : t.flatten = (t.take i ++ t.getD i default :: t.drop (i + 1)).flatten := by rw [← e1]
 rw [e2, List.flatten_append, List.flatten_cons, List.append_assoc, ← List.append_assoc (List.take k _), List.take_append_drop]
theorem pre_len {t : Ts} {i : Nat} (h : i < t.length) (k : Nat) (h16 : ∀ l ∈ t, l.length ≤ 16) (ht : t.length ≤ 4) : (pre t i k).length ≤ 64 := by
 obtain ⟨r, hr⟩ := pre_rest h k
 have := eM t h16
 rw [hr, List.length_append] at this
 omega
def rl (m : List Int) (n : Int) (s : Stp) : Int := if s.lds then mulC n (lfac m s) else n
theorem gX (m : List Int) : ∀ (l : List Stp) (n : Int), l.foldl (rl m) n = (lfacs m l).foldl mulC n
 | [], n => rfl
 | s :: l, n => by
  rw [List.foldl_cons, gX m l]
  cases hl : s.lds with
  | false =>
   rw [show lfacs m (s :: l) = lfacs m l by simp [lfacs, hl], show rl m n s = n by simp [rl, hl]]
  | true =>
   rw [show lfacs m (s :: l) = lfac m s :: lfacs m l by simp [lfacs, hl], show rl m n s = mulC n (lfac m s) by simp [rl, hl]]
   rfl
theorem jM {n f : Int} (h : 10000 < n) : mulC n f = n := if_neg (by omega)
theorem rl_big {m : List Int} {n : Int} {s : Stp} (h : 10000 < n) : rl m n s = n := by unfold rl; rw [jM h]; split <;> rfl
theorem jZ : ∀ (l : List Int) {n : Int}, 10000 < n → l.foldl mulC n = n
 | [], n, _ => rfl
 | f :: l, n, h => by rw [List.foldl_cons, jM h]; exact jZ l h
theorem fT (m : List Int) : ∀ (l : List Stp) {n : Int}, 10000 < n → l.foldl (rl m) n = n
 | [], n, _ => rfl
 | f :: l, n, h => by rw [List.foldl_cons, rl_big h]; exact fT m l h
theorem iE {n f : Int} (h0 : 0 ≤ n) (h1 : n ≤ 1000000) (g0 : 0 ≤ f) (g1 : f ≤ 100) : 0 ≤ mulC n f ∧ mulC n f ≤ 1000000 := by
 by_cases h : n ≤ 10000
 ·have e : mulC n f = n * f := if_pos h
  rw [e]
  refine ⟨Int.mul_nonneg h0 g0, ?_⟩
  have := Int.mul_le_mul h g1 g0 (by decide)
  omega
 ·have e : mulC n f = n := if_neg h
  rw [e]; exact ⟨h0, h1⟩
theorem cI : ∀ (l : List Int) {n : Int}, 0 ≤ n → n ≤ 1000000 → (∀ f ∈ l, 0 ≤ f ∧ f ≤ 100) → 0 ≤ l.foldl mulC n ∧ l.foldl mulC n ≤ 1000000
 | [], n, h0, h1, _ => ⟨h0, h1⟩
 | f :: l, n, h0, h1, h => by
  have g := h f (by simp)
  have := iE h0 h1 g.1 g.2
  exact cI l this.1 this.2 fun x hx => h x (by simp [hx])
def preV (m : List Int) (v : Nat) : List Int := ((List.range v).map fun u => upto (m.getD u 0).toNat).flatten
theorem yP (m : List Int) (v : Nat) : preV m (v + 1) = preV m v ++ upto (m.getD v 0).toNat := by
 unfold preV
 rw [List.range_succ]; simp
theorem preV_four (l : List Stp) : preV (cnts l) 4 = facL l := by
 unfold facL
 rw [yP, yP, yP, yP]
 simp [preV, cnts]
theorem fN (n : Nat) : upto (n + 1) = upto n ++ [(n : Int) + 1] := by
 unfold upto
 rw [List.range_succ]; simp
theorem dR {k : Nat} : ∀ {n : Nat}, k ≤ n → ∃ r, upto n = upto k ++ r
 | 0, h => ⟨[], by rw [show k = 0 by omega]; simp⟩
 | n + 1, h => by
  by_cases e : k = n + 1
  ·exact ⟨[], by rw [e]; simp⟩
  ·obtain ⟨r, hr⟩ := dR (k := k) (n := n) (by omega)
   exact ⟨r ++ [(n : Int) + 1], by rw [fN, hr, List.append_assoc]⟩
theorem lE {n : Nat} (h : n ≤ 64) : ∀ f ∈ upto n, 0 ≤ f ∧ f ≤ 100 := fun f hf => by
 obtain ⟨i, hi, rfl⟩ := List.mem_map.1 hf
 have := List.mem_range.1 hi
 omega
theorem preV_bd {m : List Int} (h : ∀ i, 0 ≤ m.getD i 0 ∧ m.getD i 0 ≤ ((64 : Nat) : Int)) (v : Nat) : ∀ f ∈ preV m v, 0 ≤ f ∧ f ≤ 100 := fun f hf => by
 unfold preV at hf
 obtain ⟨x, hx, hf⟩ := List.mem_flatten.1 hf
 obtain ⟨u, _, rfl⟩ := List.mem_map.1 hx
 exact lE (by have := h u; omega) f hf
theorem lfacs_bd {m : List Int} (h : ∀ i, 0 ≤ m.getD i 0 ∧ m.getD i 0 ≤ ((64 : Nat) : Int)) (l : List Stp) : ∀ f ∈ lfacs m l, 0 ≤ f ∧ f ≤ 100 := fun f hf => by
 obtain ⟨s, _, rfl⟩ := List.mem_map.1 hf
 have := h s.var.toNat
 unfold lfac
 split <;> omega
def wn (m : List Int) (v k : Nat) : Int := (preV m v ++ upto k).foldl mulC 1
theorem wn_succ (m : List Int) (v k : Nat) : wn m v (k + 1) = mulC (wn m v k) ((k : Int) + 1) := by
 unfold wn
 rw [fN, ← List.append_assoc, List.foldl_append]; rfl
theorem wn_next {m : List Int} {v k : Nat} (h : k ≤ (m.getD v 0).toNat) (hk : k = (m.getD v 0).toNat ∨ 10000 < wn m v k) : wn m (v + 1) 0 = wn m v k := by
 obtain ⟨r, hr⟩ := dR h
 have e : wn m (v + 1) 0 = r.foldl mulC (wn m v k) := by
  unfold wn
  rw [yP, hr, ← List.append_assoc, ← List.foldl_append]
  simp [upto]
 rw [e]
 rcases hk with hk | hk
 ·have : r = [] := by
   have h2 := congrArg List.length hr
   rw [← hk] at h2
   simp [upto] at h2
   exact h2
  rw [this]; rfl
 ·exact jZ r hk
theorem oA {m : List Int} (h : ∀ i, 0 ≤ m.getD i 0 ∧ m.getD i 0 ≤ ((64 : Nat) : Int)) {v k : Nat} (hk : k ≤ 64) : 0 ≤ wn m v k ∧ wn m v k ≤ 1000000 := by
 refine cI _ (by decide) (by decide) fun f hf => ?_
 rcases List.mem_append.1 hf with hf | hf
 ·exact preV_bd h v f hf
 ·exact lE hk f hf
def rn (m : List Int) (n : Int) (l : List Stp) : Int := l.foldl (rl m) n
theorem oD {m : List Int} (h : ∀ i, 0 ≤ m.getD i 0 ∧ m.getD i 0 ≤ ((64 : Nat) : Int)) {n : Int} (h0 : 0 ≤ n) (h1 : n ≤ 1000000) (l : List Stp) : 0 ≤ rn m n l ∧ rn m n l ≤ 1000000 := by
 unfold rn
 rw [gX]
 exact cI _ h0 h1 (lfacs_bd h l)
theorem rn_rest {m : List Int} {n : Int} {t : Ts} {i k : Nat} (hi : i < t.length) (hk : k ≤ (t.getD i default).length) (hb : k = (t.getD i default).length ∨ 10000 < rn m n (pre t i k)) : rn m n (pre t (i + 1) 0) = rn m n (pre t i k) := by
 rw [dX hi]
 rcases hb with hb | hb
 ·rw [hb]
 ·have e : pre t i (t.getD i default).length = pre t i k ++ (t.getD i default).drop k := by
   unfold pre
   rw [List.append_assoc, List.take_append_drop, List.take_length]
  unfold rn at hb ⊢
  rw [e, List.foldl_append, fT m _ hb]
theorem waysT_rn {t : Ts} (hr : ∀ s ∈ t.flatten, s.right = true) {m : List Int} (hm : m = (sAll t.flatten).1) : capI (rn m (wn m 4 0) t.flatten) = waysT t := by
 rw [← refWays_eq t hr]
 have e : m = cnts t.flatten := by rw [hm, lJ _ hr]
 unfold refWays rn wn
 rw [gX, e, preV_four]
 simp [upto]
set_option maxHeartbeats 4000000 in
theorem lN (t : Ts) (ht : t.length ≤ 4) (h16 : ∀ l ∈ t, l.length ≤ 16) (hr : ∀ l ∈ t, ∀ s ∈ l, s.right = true) : Pure E.P 52 [testOV t] (.int .i64 (waysT t)) := by
 have f1 : Frozen 1 := ⟨trivial⟩
 have hrf : ∀ s ∈ t.flatten, s.right = true := fun s hs => by obtain ⟨l, hl, hs⟩ := List.mem_flatten.1 hs; exact hr l hl s hs
 have hS : ∀ l : List Stp, l.length ≤ 64 → (sAll l).1.length = 4 ∧ ∀ i, 0 ≤ (sAll l).1.getD i 0 ∧ (sAll l).1.getD i 0 ≤ ((64 : Nat) : Int) := fun l hl => by
  obtain ⟨h1, h2, _, _⟩ := SOk.all l 0 ([0, 0, 0, 0], 1) ⟨rfl, fun i => by rcases i with _ | _ | _ | _ | i <;> simp, by decide, by decide⟩ (by omega)
  exact ⟨h1, fun i => ⟨(h2 i).1, Int.le_trans (h2 i).2 (by omega)⟩⟩
 refine fnA Tryz.func52 Tryz.ntmps52 ?_
 refine run ?_; refine aoR fun _ => ?_
 refine run ?_; refine aoR fun _ => ?_
 refine run ?_; refine aoR fun _ => ?_
 refine run ?_; rotate_left
 rename_i v0 v1
 refine uW (X := Nat) (fun i => tmL [(1, .d (.pt [.sl 1 (t.map catRowT)] 0)), (3, .lo 3 (v0, 0) 4 0 0), (4, .int .i64 i)]) (fun i => stL [(3, ((v0, 0), ⟨4, [manyO (sAll (pre t i 0)).1]⟩))]) (fun i => i ≤ t.length) (fun i => t.length - i) 0 (Nat.zero_le _) leP (by rw [dV]; exact leP) ?_
 intro i hi
 by_cases hlt : i < t.length
 ·have hmem : t.getD (i : Int).toNat default ∈ t := vM (k := (i : Int).toNat) (by simpa using hlt)
  have hl16 := h16 _ hmem
  have eN : ∀ k, pre t i k = (t.take i).flatten ++ (t.getD (i : Int).toNat default).take k := fun k => rfl
  refine run ?_; refine aoR fun _ => ?_
  refine run ?_; refine cnd ?_ ?_
  refine uB fun _ => ?_; try omega
  refine run ?_; refine aoR fun _ => ?_
  refine run ?_; rotate_left
  refine uC fun _ => ?_; try omega
  refine uW (X := Nat) (fun k => tmL [(1, .d (.pt [.sl 1 (t.map catRowT)] 0)), (3, .lo 3 (v0, 0) 4 0 0), (4, .int .i64 i), (5, .int .i64 k)]) (fun k => stL [(3, ((v0, 0), ⟨4, [manyO (sAll (pre t i k)).1]⟩))]) (fun k => k ≤ (t.getD (i : Int).toNat default).length) (fun k => (t.getD (i : Int).toNat default).length - k) 0 (Nat.zero_le _) leP leP ?_
  intro k hk
  by_cases hlk : k < (t.getD (i : Int).toNat default).length
  ·have hs := hr _ hmem _ (vM (l := t.getD (i : Int).toNat default) (d := default) (k := (k : Int).toNat) (by simpa using hlk))
   have hv := aC hs
   have c := zK ((t.getD (i : Int).toNat default).getD (k : Int).toNat default)
   have hst : sAll (pre t i (k + 1)) = sStep (sAll (pre t i k)) ((t.getD (i : Int).toNat default).getD (k : Int).toNat default) := by
    rw [dW (by simpa using hlk)]; unfold sAll; rw [List.foldl_append]; rfl
   obtain ⟨g1, g2⟩ := hS _ (pre_len hlt k h16 ht)
   obtain ⟨p, hp⟩ : ∃ p, p = sAll (pre t i k) := ⟨_, rfl⟩
   rw [← hp] at hst g1 g2 ⊢
   cases hb : ((t.getD (i : Int).toNat default).getD (k : Int).toNat default).sts with
   | false =>
    rw [hb] at c
    have e : sStep p ((t.getD (i : Int).toNat default).getD (k : Int).toNat default) = p := by unfold sStep; rw [hb]; rfl
    rw [e] at hst
    refine run ?_; refine aoR fun _ => ?_
    refine run ?_; refine cnd ?_ ?_
    refine uB fun _ => ?_; try omega
    refine run ?_; refine aoR fun _ => ?_
    refine run ?_
    apply uD; exact rfl; exact .fn _ _ _; exact rfl; exact c
    refine run ?_; refine cnd ?_ ?_
    exact wS
    refine xL ?_; refine run ?_; refine aoR fun _ => ?_
    refine run ?_; rotate_left
    refine uC fun _ => ?_; try omega
    refine uT (k + 1) (by omega) (by omega) leP (by rw [hst]; exact leP)
   | true =>
    rw [hb] at c
    have e : (sStep p ((t.getD (i : Int).toNat default).getD (k : Int).toNat default)).1 = p.1.set ((t.getD (i : Int).toNat default).getD (k : Int).toNat default).var.toNat (p.1.getD ((t.getD (i : Int).toNat default).getD (k : Int).toNat default).var.toNat 0 + 1) := by unfold sStep; rw [hb]; rfl
    have g3 := g2 ((t.getD (i : Int).toNat default).getD (k : Int).toNat default).var.toNat
    refine run ?_; refine aoR fun _ => ?_
    refine run ?_; refine cnd ?_ ?_
    refine uB fun _ => ?_; try omega
    refine run ?_; refine aoR fun _ => ?_
    refine run ?_
    apply uD; exact rfl; exact .fn _ _ _; exact rfl; exact c
    refine run ?_; refine cnd ?_ ?_; refine vI ?_; refine aoR fun _ => ?_
    refine run ?_
    apply vO; exact rfl; exact rfl; exact rfl; exact rfl; exact rfl; (rw [show te3.size = 1 from rfl, Nat.mul_one, Nat.zero_add]; exact uH (f := oneO) (by omega) 0)
    refine run ?_
    apply dQ; exact rfl; exact rfl; exact rfl; exact rfl; exact rfl; exact rfl; exact rfl; (show _ + _ * 1 + 1 ≤ List.length (List.map oneO _); (rw [List.length_map]; omega))
    refine run ?_; refine aoR fun _ => ?_
    refine run ?_; rotate_left
    exact wR
    refine uC fun _ => ?_; try omega
    refine uT (k + 1) (by omega) (by omega) leP ?_
    rw [hst, e]
    refine uN rfl ?_ (vB _)
    show [setAt (p.1.map oneO) (0 + ((t.getD (i : Int).toNat default).getD (k : Int).toNat default).var.toNat * 1) [oneO _]] = [manyO _]
    rw [Nat.mul_one, Nat.zero_add, fS _ _ _ _ (by omega)]; rfl
  ·have hkl : k = (t.getD (i : Int).toNat default).length := by omega
   have e1 := dX hlt
   refine run ?_; refine aoR fun _ => ?_
   refine run ?_; refine cnd ?_ ?_
   refine uB fun _ => ?_; try omega
   refine uC fun _ => ?_; try omega
   refine run ?_; refine aoR fun _ => ?_
   refine run ?_; rotate_left
   refine uT (i + 1) (by omega) (by omega) leP (by rw [e1, hkl]; exact leP)
 ·have hil : i = t.length := by omega
  subst hil
  rw [gZ]
  obtain ⟨m, hm⟩ : ∃ m, m = (sAll t.flatten).1 := ⟨_, rfl⟩
  have hfl := eM t h16
  obtain ⟨g1, g2⟩ := hS t.flatten (by omega)
  have hW := waysT_rn hrf hm
  rw [← hm] at g1 g2 ⊢
  refine run ?_; refine aoR fun _ => ?_
  refine run ?_; refine cnd ?_ ?_
  refine uB fun _ => ?_; try omega
  refine uC fun _ => ?_; try omega
  refine run ?_; refine aoR fun _ => ?_
  refine run ?_; refine aoR fun _ => ?_
  refine run ?_; rotate_left
  refine uW (X := Nat) (fun v => tmL [(1, .d (.pt [.sl 1 (t.map catRowT)] 0)), (3, .lo 3 (v0, 0) 4 0 0), (6, .int .i64 (wn m v 0)), (7, .int .i64 v)]) (fun v => stL [(3, ((v0, 0), ⟨4, [manyO m]⟩))]) (fun v => v ≤ 4) (fun v => 4 - v) 0 (Nat.zero_le _) leP leP ?_
  intro v hv
  by_cases hv4 : v < 4
  ·have gv := g2 v
   refine run ?_; refine aoR fun _ => ?_
   refine run ?_; refine cnd ?_ ?_
   refine uB fun _ => ?_; try omega
   refine run ?_; refine aoR fun _ => ?_
   refine run ?_; rotate_left
   refine uC fun _ => ?_; try omega
   refine uW (X := Nat) (fun k => tmL [(1, .d (.pt [.sl 1 (t.map catRowT)] 0)), (3, .lo 3 (v0, 0) 4 0 0), (6, .int .i64 (wn m v k)), (7, .int .i64 v), (8, .int .i64 ((k : Int) + 1))]) (fun k => stL [(3, ((v0, 0), ⟨4, [manyO m]⟩))]) (fun k => k ≤ (m.getD (v : Int).toNat 0).toNat) (fun k => (m.getD (v : Int).toNat 0).toNat - k) 0 (Nat.zero_le _) leP leP ?_
   intro k hk
   obtain ⟨b0, b1⟩ := oA g2 (v := v) (k := k) (by rw [Int.toNat_natCast] at hk; omega)
   have es := wn_succ m v k
   have en := wn_next (m := m) (v := v) (k := k) (by rw [Int.toNat_natCast] at hk; exact hk)
   have gv' := g2 (v : Int).toNat
   obtain ⟨n, hn⟩ : ∃ n, n = wn m v k := ⟨_, rfl⟩
   rw [← hn] at b0 b1 es en ⊢
   by_cases h1 : (k : Int) + 1 ≤ m.getD (v : Int).toNat 0
   ·by_cases h2 : n ≤ 10000
    ·have hmu : 0 ≤ n * ((k : Int) + 1) ∧ n * ((k : Int) + 1) ≤ 1000000 := by
      have := iE b0 b1 (show 0 ≤ (k : Int) + 1 by omega) (by omega)
      rwa [show mulC n ((k : Int) + 1) = n * ((k : Int) + 1) from if_pos h2] at this
     rw [show mulC n ((k : Int) + 1) = n * ((k : Int) + 1) from if_pos h2] at es
     refine run ?_; refine aoR fun _ => ?_
     refine run ?_
     apply vO; exact rfl; exact rfl; exact rfl; exact rfl; exact rfl; (rw [show te3.size = 1 from rfl, Nat.mul_one, Nat.zero_add]; exact uH (f := oneO) (by omega) 0)
     refine run ?_; refine cnd ?_ ?_; refine zG ?_
     iterate 2 refine uB fun _ => ?_; try omega
     refine run ?_; refine aoR fun _ => ?_
     refine run ?_; refine aoR fun _ => ?_
     refine run ?_; rotate_left
     refine zH (fun hc_ => ?_); (try simp only [nrm] at hc_)
     refine run ?_; refine aoR fun _ => ?_
     refine run ?_; rotate_left
     all_goals first | exact uT (k + 1) (by omega) (by omega) (by rw [es]; exact leP) leP | (exfalso; omega)
    ·refine run ?_
     refine aoR fun _ => ?_; refine run ?_
     apply vO; exact rfl; exact rfl; exact rfl; exact rfl; exact rfl; (rw [show te3.size = 1 from rfl, Nat.mul_one, Nat.zero_add]; exact uH (f := oneO) (by omega) 0)
     refine run ?_; refine cnd ?_ ?_; refine zG ?_
     iterate 2 refine uB fun _ => ?_; try omega
     refine zH (fun hc_ => ?_); (try simp only [nrm] at hc_)
     refine run ?_; refine aoR fun _ => ?_
     refine run ?_; rotate_left
     all_goals first | exact uT (v + 1) (by omega) (by omega) (by rw [en (Or.inr (by omega))]; exact leP) leP | (exfalso; omega)
   ·have ek : k = (m.getD v 0).toNat := by rw [Int.toNat_natCast] at hk h1; omega
    refine run ?_; refine aoR fun _ => ?_
    refine run ?_
    apply vO; exact rfl; exact rfl; exact rfl; exact rfl; exact rfl; (rw [show te3.size = 1 from rfl, Nat.mul_one, Nat.zero_add]; exact uH (f := oneO) (by omega) 0)
    refine run ?_; refine cnd ?_ ?_; refine zG ?_
    refine uB fun _ => ?_; try omega
    refine zH (fun hc_ => ?_); (try simp only [nrm] at hc_)
    refine run ?_; refine aoR fun _ => ?_
    refine run ?_; rotate_left
    all_goals first | exact uT (v + 1) (by omega) (by omega) (by rw [en (Or.inl ek)]; exact leP) leP | (exfalso; omega)
  ·have h44 : v = 4 := by omega
   subst h44
   obtain ⟨N, hN⟩ : ∃ N, N = wn m 4 0 := ⟨_, rfl⟩
   have hb := oA g2 (v := 4) (k := 0) (by omega)
   rw [← hN] at hW hb ⊢
   refine run ?_; refine aoR fun _ => ?_
   refine run ?_; refine cnd ?_ ?_
   refine uB fun _ => ?_; try omega
   refine uC fun _ => ?_; try omega
   refine run ?_; refine aoR fun _ => ?_
   refine run ?_; rotate_left
   clear hv4 hv
   refine uW (X := Nat) (fun i => tmL [(1, .d (.pt [.sl 1 (t.map catRowT)] 0)), (3, .lo 3 (v0, 0) 4 0 0), (6, .int .i64 (rn m N (pre t i 0))), (9, .int .i64 i)]) (fun _ => stL [(3, ((v0, 0), ⟨4, [manyO m]⟩))]) (fun i => i ≤ t.length) (fun i => t.length - i) 0 (Nat.zero_le _) (by rw [dV]; exact leP) leP ?_
   intro i hi
   by_cases hlt : i < t.length
   ·have hmem : t.getD (i : Int).toNat default ∈ t := vM (k := (i : Int).toNat) (by simpa using hlt)
    have hl16 := h16 _ hmem
    refine run ?_; refine aoR fun _ => ?_
    refine run ?_; refine cnd ?_ ?_
    refine uB fun _ => ?_; try omega
    refine run ?_; refine aoR fun _ => ?_
    refine run ?_; rotate_left
    refine uC fun _ => ?_; try omega
    refine uW (X := Nat) (fun k => tmL [(1, .d (.pt [.sl 1 (t.map catRowT)] 0)), (3, .lo 3 (v0, 0) 4 0 0), (6, .int .i64 (rn m N (pre t i k))), (9, .int .i64 i), (10, .int .i64 k)]) (fun _ => stL [(3, ((v0, 0), ⟨4, [manyO m]⟩))]) (fun k => k ≤ (t.getD (i : Int).toNat default).length) (fun k => (t.getD (i : Int).toNat default).length - k) 0 (Nat.zero_le _) leP leP ?_
    intro k hk
    obtain ⟨b0, b1⟩ := oD g2 hb.1 hb.2 (pre t i k)
    have er := rn_rest (m := m) (n := N) hlt hk
    by_cases hlk : k < (t.getD (i : Int).toNat default).length
    ·have hs := hr _ hmem _ (vM (l := t.getD (i : Int).toNat default) (d := default) (k := (k : Int).toNat) (by simpa using hlk))
     have hv := aC hs
     have c2 := zK ((t.getD (i : Int).toNat default).getD (k : Int).toNat default)
     have c3 := aW ((t.getD (i : Int).toNat default).getD (k : Int).toNat default)
     have g3 := g2 ((t.getD (i : Int).toNat default).getD (k : Int).toNat default).var.toNat
     have hst : rn m N (pre t i (k + 1)) = rl m (rn m N (pre t i k)) ((t.getD (i : Int).toNat default).getD (k : Int).toNat default) := by
      rw [dW (by simpa using hlk)]; unfold rn; rw [List.foldl_append]; rfl
     obtain ⟨n, hn⟩ : ∃ n, n = rn m N (pre t i k) := ⟨_, rfl⟩
     rw [← hn] at hst b0 b1 er ⊢
     by_cases h2 : n ≤ 10000
     ·have hmu : ∀ f : Int, 0 ≤ f → f ≤ 100 → 0 ≤ n * f ∧ n * f ≤ 1000000 := fun f h0 h1 => by
       have := iE b0 b1 h0 h1
       rwa [show mulC n f = n * f from if_pos h2] at this
      have hm0 := hmu (m.getD ((t.getD (i : Int).toNat default).getD (k : Int).toNat default).var.toNat 0) (by omega) (by omega)
      have hm1 := hmu (m.getD ((t.getD (i : Int).toNat default).getD (k : Int).toNat default).var.toNat 0 + 1) (by omega) (by omega)
      unfold rl mulC lfac at hst
      simp only [if_pos h2] at hst
      cases hl1 : ((t.getD (i : Int).toNat default).getD (k : Int).toNat default).lds with
      | false =>
       rw [hl1] at c3 hst
       simp only [Bool.false_eq_true, if_false, if_true] at hst
       refine run ?_; refine aoR fun _ => ?_
       refine run ?_; refine cnd ?_ ?_; refine zG ?_
       iterate 2 refine uB fun _ => ?_; try omega
       refine run ?_; refine aoR fun _ => ?_
       refine run ?_; refine aoR fun _ => ?_
       refine run ?_
       apply uD; exact rfl; exact .fn _ _ _; exact rfl; exact c3
       refine run ?_; refine cnd ?_ ?_
       exact wS
       refine xL ?_; refine run ?_; refine aoR fun _ => ?_
       refine run ?_
       apply uD; exact rfl; exact .fn _ _ _; exact rfl; exact c3
       refine run ?_; refine cnd ?_ ?_
       exact wS
       refine xL ?_; refine run ?_; refine aoR fun _ => ?_
       refine run ?_; rotate_left
       refine zH (fun hc_ => ?_); (try simp only [nrm] at hc_)
       refine run ?_; refine aoR fun _ => ?_
       refine run ?_; rotate_left
       all_goals first | exact (lG ‹_›).elim | exact uT (k + 1) (by omega) (by omega) (by rw [hst]; exact leP) leP | (exfalso; omega)
      | true =>
       rw [hl1] at c3 hst
       simp only [Bool.false_eq_true, if_false, if_true] at hst
       cases hs1 : ((t.getD (i : Int).toNat default).getD (k : Int).toNat default).sts with
       | true =>
        rw [hs1] at c2 hst
        simp only [Bool.false_eq_true, if_false, if_true] at hst
        refine run ?_; refine aoR fun _ => ?_
        refine run ?_; refine cnd ?_ ?_; refine zG ?_
        iterate 2 refine uB fun _ => ?_; try omega
        refine run ?_; refine aoR fun _ => ?_
        refine run ?_; refine aoR fun _ => ?_
        refine run ?_
        apply uD; exact rfl; exact .fn _ _ _; exact rfl; exact c3
        refine run ?_
        apply spT; exact rfl
        intro hc_
        have hp_ := hc_; try simp only [nrm] at hp_
        apply uI; (exact EvM.plain rfl rfl); exact .fn _ _ _; exact vF; exact c2
        refine run ?_; refine cnd ?_ ?_; refine zG ?_
        iterate 2 refine vI ?_
        refine aoR fun _ => ?_; refine run ?_
        apply vO; exact rfl; exact rfl; exact rfl; exact rfl; exact rfl; (rw [show te3.size = 1 from rfl, Nat.mul_one, Nat.zero_add]; exact uH (f := oneO) (by omega) 0)
        refine run ?_; refine aoR fun _ => ?_
        refine run ?_; rotate_left
        refine zH (fun hc_ => ?_); (try simp only [nrm] at hc_)
        refine run ?_; refine aoR fun _ => ?_
        refine run ?_
        apply uD; exact rfl; exact .fn _ _ _; exact rfl; exact c3
        refine run ?_; refine cnd ?_ ?_; refine vI ?_; refine aoR fun _ => ?_
        refine run ?_
        apply vO; exact rfl; exact rfl; exact rfl; exact rfl; exact rfl; (rw [show te3.size = 1 from rfl, Nat.mul_one, Nat.zero_add]; exact uH (f := oneO) (by omega) 0)
        refine run ?_; refine aoR fun _ => ?_
        refine run ?_; rotate_left
        exact wR
        refine zH (fun hc_ => ?_); (try simp only [nrm] at hc_)
        refine run ?_; refine aoR fun _ => ?_
        refine run ?_; rotate_left
        all_goals first | exact (lG ‹_›).elim | exact uT (k + 1) (by omega) (by omega) (by rw [hst]; exact leP) leP | (exfalso; omega)
       | false =>
        rw [hs1] at c2 hst
        simp only [Bool.false_eq_true, if_false, if_true] at hst
        refine run ?_; refine aoR fun _ => ?_
        refine run ?_; refine cnd ?_ ?_; refine zG ?_
        iterate 2 refine uB fun _ => ?_; try omega
        refine run ?_; refine aoR fun _ => ?_
        refine run ?_; refine aoR fun _ => ?_
        refine run ?_
        apply uD; exact rfl; exact .fn _ _ _; exact rfl; exact c3
        refine run ?_
        apply spT; exact rfl
        intro hc_
        have hp_ := hc_; try simp only [nrm] at hp_
        apply uI; (exact EvM.plain rfl rfl); exact .fn _ _ _; exact vF; exact c2
        refine run ?_; refine cnd ?_ ?_; refine zG ?_; refine vI ?_
        exact wS
        refine zH (fun hc_ => ?_); (try simp only [nrm] at hc_)
        refine run ?_; refine aoR fun _ => ?_
        refine run ?_
        apply uD; exact rfl; exact .fn _ _ _; exact rfl; exact c3
        refine run ?_; refine cnd ?_ ?_; refine vI ?_; refine aoR fun _ => ?_
        refine run ?_
        apply vO; exact rfl; exact rfl; exact rfl; exact rfl; exact rfl; (rw [show te3.size = 1 from rfl, Nat.mul_one, Nat.zero_add]; exact uH (f := oneO) (by omega) 0)
        refine run ?_; refine aoR fun _ => ?_
        refine run ?_; rotate_left
        exact wR
        refine zH (fun hc_ => ?_); (try simp only [nrm] at hc_)
        refine run ?_; refine aoR fun _ => ?_
        refine run ?_; rotate_left
        all_goals first | exact (lG ‹_›).elim | exact uT (k + 1) (by omega) (by omega) (by rw [hst]; exact leP) leP | (exfalso; omega)
     ·refine run ?_
      refine aoR fun _ => ?_; refine run ?_
      refine cnd ?_ ?_; refine zG ?_
      iterate 2 refine uB fun _ => ?_; try omega
      refine zH (fun hc_ => ?_); (try simp only [nrm] at hc_)
      refine run ?_; refine aoR fun _ => ?_
      refine run ?_; rotate_left
      all_goals first | exact uT (i + 1) (by omega) (by omega) (by rw [er (Or.inr (by omega))]; exact leP) leP | (exfalso; omega)
    ·have ekl : k = (t.getD i default).length := by rw [Int.toNat_natCast] at hk hlk; omega
     refine run ?_; refine aoR fun _ => ?_
     refine run ?_; refine cnd ?_ ?_; refine zG ?_
     refine uB fun _ => ?_; try omega
     refine zH (fun hc_ => ?_); (try simp only [nrm] at hc_)
     refine run ?_; refine aoR fun _ => ?_
     refine run ?_; rotate_left
     all_goals first | exact uT (i + 1) (by omega) (by omega) (by rw [er (Or.inl ekl)]; exact leP) leP | (exfalso; omega)
   ·have hil : i = t.length := by omega
    subst hil
    rw [gZ]
    have b := oD g2 hb.1 hb.2 t.flatten
    obtain ⟨n, hn⟩ : ∃ n, n = rn m N t.flatten := ⟨_, rfl⟩
    rw [← hn] at hW b ⊢
    refine run ?_; refine aoR fun _ => ?_
    refine run ?_; refine cnd ?_ ?_
    refine uB fun _ => ?_; try omega
    refine uC fun _ => ?_; try omega
    refine run ?_; refine aoR fun _ => ?_
    refine run ?_; rotate_left
    exact xZ rfl hW
set_option maxRecDepth 100000
open Go.RowKit Go.Lib
theorem pre_acc {t : Ts} {i k : Nat} (h : k < (t.getD i default).length) : accs (pre t i (k + 1)) = accs (pre t i k) + (if ((t.getD i default).getD k default).acc then 1 else 0) := by
 rw [dW h, zU, kK]
theorem kH {t : Ts} (h0 : ¬ (t.length < 1 ∨ 4 < t.length)) {i : Nat} (hi : i < t.length) (h : threadOk (t.getD i default) = false) : checkT t = 2 := by
 have hno : t.all threadOk = false := by
  rw [List.all_eq_false]
  exact ⟨t.getD i default, vM hi, by rw [h]; decide⟩
 unfold checkT
 rw [if_neg h0, if_pos hno]
set_option maxHeartbeats 4000000 in
theorem jJ (t : Ts) : Pure E.P 22 [testOV t] (.int .i64 (checkT t)) := by
 have f1 : Frozen 1 := ⟨trivial⟩
 have cw := wU t.length 1 4
 refine fnA Tryz.func22 Tryz.ntmps22 ?_
 by_cases h0 : t.length < 1 ∨ 4 < t.length
 ·have e : checkT t = 2 := by unfold checkT; rw [if_pos h0]
  have ew : inR t.length 1 4 = false := by
   unfold inR
   rcases h0 with h | h
   ·rw [decide_eq_false (by omega : ¬ (1 : Int) ≤ t.length)]; rfl
   ·rw [decide_eq_false (by omega : ¬ (t.length : Int) ≤ 4)]; simp
  rw [ew] at cw
  rw [e]
  refine run ?_; refine aoR fun _ => ?_
  refine run ?_; refine aoR fun _ => ?_
  refine run ?_
  apply uD; exact rfl; exact .fn _ _ _; exact rfl; exact cw
  refine run ?_; refine cnd ?_ ?_; refine zM ?_; refine xL ?_; refine run ?_; refine aoR fun _ => ?_
  refine run ?_; rotate_left
  refine wD ?_
  exact wS
  all_goals exact xZ rfl rfl
 ·have hn1 : 1 ≤ t.length := by omega
  have hn4 : t.length ≤ 4 := by omega
  have ew : inR t.length 1 4 = true := by
   unfold inR
   rw [decide_eq_true (by omega : (1 : Int) ≤ t.length), decide_eq_true (by omega : (t.length : Int) ≤ 4)]; rfl
  rw [ew] at cw
  refine run ?_; refine aoR fun _ => ?_
  refine run ?_; refine aoR fun _ => ?_
  refine run ?_
  apply uD; exact rfl; exact .fn _ _ _; exact rfl; exact cw
  refine run ?_; refine cnd ?_ ?_; refine zM ?_
  exact wR
  refine wD ?_; refine vI ?_; refine run ?_; refine aoR fun _ => ?_
  refine run ?_; refine aoR fun _ => ?_
  refine run ?_; rotate_left
  refine uW (X := Nat) (fun i => tmL [(1, .d (.pt [.sl 1 (t.map catRowT)] 0)), (3, .int .i64 (accs (pre t i 0))), (4, .int .i64 i)]) (fun _ => stL []) (fun i => i ≤ t.length ∧ (t.take i).all threadOk = true) (fun i => t.length - i) 0 ⟨Nat.zero_le _, rfl⟩ (by rw [dV]; exact leP) leP ?_
  rintro i ⟨hi, hok⟩
  have hfl : i < 4 → (t.take i).flatten.length ≤ 48 := fun h4 => by
   have := zN (t.take i) 16 fun x hx => by
    have h := List.all_eq_true.1 hok x hx
    unfold threadOk at h
    simp only [Bool.and_eq_true, decide_eq_true_eq] at h
    exact h.1
   rw [List.length_take] at this; omega
  by_cases hlt : i < t.length
  ·by_cases h16 : 16 < (t.getD (i : Int).toNat default).length
   ·rw [kH h0 hlt (by unfold threadOk; rw [decide_eq_false (by rw [Int.toNat_natCast] at h16; omega)]; rfl)]
    refine run ?_; refine aoR fun _ => ?_
    refine run ?_; refine cnd ?_ ?_
    refine uB fun _ => ?_; try omega
    refine run ?_; refine aoR fun _ => ?_
    refine run ?_; refine cnd ?_ ?_
    refine uB fun _ => ?_; try omega
    refine run ?_; refine aoR fun _ => ?_
    refine run ?_; rotate_left
    iterate 2 refine uC fun _ => ?_; try omega
    all_goals first | exact xZ rfl rfl | (exfalso; omega)
   ·refine run ?_
    refine aoR fun _ => ?_; refine run ?_
    refine cnd ?_ ?_
    refine uB fun _ => ?_; try omega
    refine run ?_; refine aoR fun _ => ?_
    refine run ?_; refine cnd ?_ ?_
    refine uB fun _ => ?_; try omega
    refine uC fun _ => ?_; try omega
    refine run ?_; refine aoR fun _ => ?_
    refine run ?_; rotate_left
    refine uC fun _ => ?_; try omega
    all_goals try omega
    refine uW (X := Nat) (fun k => tmL [(1, .d (.pt [.sl 1 (t.map catRowT)] 0)), (3, .int .i64 (accs (pre t i k))), (4, .int .i64 i), (5, .int .i64 k)]) (fun _ => stL []) (fun k => k ≤ (t.getD (i : Int).toNat default).length ∧ ((t.getD (i : Int).toNat default).take k).all Stp.right = true) (fun k => (t.getD (i : Int).toNat default).length - k) 0 ⟨Nat.zero_le _, rfl⟩ leP leP ?_
    rintro k ⟨hk, hkr⟩
    have hka := iY (pre t i k)
    have hpl : (pre t i k).length ≤ 64 := by
     unfold pre
     rw [List.length_append, List.length_take]
     rw [Int.toNat_natCast] at h16
     omega
    by_cases hlk : k < (t.getD (i : Int).toNat default).length
    ·have c1 := rRight_p ((t.getD (i : Int).toNat default).getD (k : Int).toNat default)
     have c2 := fV ((t.getD (i : Int).toNat default).getD (k : Int).toNat default)
     have hac := pre_acc (t := t) (i := i) (k := k) (by simpa using hlk)
     have hsk := vL (t.getD (i : Int).toNat default) default k hlk
     change _ = _ + (if ((t.getD (i : Int).toNat default).getD (k : Int).toNat default).acc then 1 else 0) at hac
     change _ = _ ++ [(t.getD (i : Int).toNat default).getD (k : Int).toNat default] at hsk
     cases hsr : ((t.getD (i : Int).toNat default).getD (k : Int).toNat default).right with
     | false =>
      rw [hsr] at c1
      rw [kH h0 hlt (by
       unfold threadOk
       rw [show (t.getD i default).all Stp.right = false from List.all_eq_false.2 ⟨(t.getD (i : Int).toNat default).getD (k : Int).toNat default, vM hlk, by rw [hsr]; decide⟩]; simp)]
      refine run ?_; refine aoR fun _ => ?_
      refine run ?_; refine cnd ?_ ?_
      refine uB fun _ => ?_; try omega
      refine run ?_; refine aoR fun _ => ?_
      refine run ?_
      apply uD; exact rfl; exact .fn _ _ _; exact rfl; exact c1
      refine run ?_; refine cnd ?_ ?_; refine zM ?_; refine xL ?_; refine run ?_; refine aoR fun _ => ?_
      refine run ?_; rotate_left
      refine wD ?_
      exact wS
      refine uC fun _ => ?_; try omega
      all_goals exact xZ rfl rfl
     | true =>
      rw [hsr] at c1
      have hkr1 : ((t.getD (i : Int).toNat default).take (k + 1)).all Stp.right = true := by
       rw [hsk, List.all_append, hkr, List.all_cons, hsr]; rfl
      cases hsa : ((t.getD (i : Int).toNat default).getD (k : Int).toNat default).acc with
      | false =>
       rw [hsa] at c2 hac
       refine run ?_; refine aoR fun _ => ?_
       refine run ?_; refine cnd ?_ ?_
       refine uB fun _ => ?_; try omega
       refine run ?_; refine aoR fun _ => ?_
       refine run ?_
       apply uD; exact rfl; exact .fn _ _ _; exact rfl; exact c1
       refine run ?_; refine cnd ?_ ?_; refine zM ?_
       exact wR
       refine wD ?_; refine vI ?_; refine run ?_; refine aoR fun _ => ?_
       refine run ?_
       apply uD; exact rfl; exact .fn _ _ _; exact rfl; exact c2
       refine run ?_; refine cnd ?_ ?_
       exact wS
       refine xL ?_; refine run ?_; refine aoR fun _ => ?_
       refine run ?_; rotate_left
       refine uC fun _ => ?_; try omega
       refine uT (k + 1) ⟨by omega, hkr1⟩ (by omega) (by repeat' (first | exact vY _ | exact vB _ | refine uV rfl ?_ | refine uP rfl ?_ | (refine uY rfl ?_ ?_; (rw [hac]; simp)) | (refine uO rfl ?_ ?_; (rw [hac]; simp)) | (refine uN rfl ?_ ?_; (rw [hac]; simp)))) leP
      | true =>
       rw [hsa] at c2 hac
       refine run ?_; refine aoR fun _ => ?_
       refine run ?_; refine cnd ?_ ?_
       refine uB fun _ => ?_; try omega
       refine run ?_; refine aoR fun _ => ?_
       refine run ?_
       apply uD; exact rfl; exact .fn _ _ _; exact rfl; exact c1
       refine run ?_; refine cnd ?_ ?_; refine zM ?_
       exact wR
       refine wD ?_; refine vI ?_; refine run ?_; refine aoR fun _ => ?_
       refine run ?_
       apply uD; exact rfl; exact .fn _ _ _; exact rfl; exact c2
       refine run ?_; refine cnd ?_ ?_; refine vI ?_; refine aoR fun _ => ?_
       refine run ?_; refine aoR fun _ => ?_
       refine run ?_; rotate_left
       exact wR
       refine uC fun _ => ?_; try omega
       refine uT (k + 1) ⟨by omega, hkr1⟩ (by omega) (by repeat' (first | exact vY _ | exact vB _ | refine uV rfl ?_ | refine uP rfl ?_ | (refine uY rfl ?_ ?_; (rw [hac]; simp)) | (refine uO rfl ?_ ?_; (rw [hac]; simp)) | (refine uN rfl ?_ ?_; (rw [hac]; simp)))) leP
    ·have hkk : k = (t.getD (i : Int).toNat default).length := by omega
     have en := dX hlt
     refine run ?_; refine aoR fun _ => ?_
     refine run ?_; refine cnd ?_ ?_
     refine uB fun _ => ?_; try omega
     refine uC fun _ => ?_; try omega
     refine run ?_; refine aoR fun _ => ?_
     refine run ?_; rotate_left
     rw [hkk, List.take_length] at hkr
     refine uT (i + 1) ⟨by omega, ?_⟩ (by omega) (by rw [en, hkk]; exact leP) leP
     rw [vL t default i hlt, List.all_append, hok]
     simp only [List.all_cons, List.all_nil, Bool.and_true, Bool.true_and]
     unfold threadOk
     rw [show (t.getD i default).all Stp.right = true from hkr, decide_eq_true (show (t.getD i default).length ≤ 16 by rw [Int.toNat_natCast] at h16; omega)]; rfl
  ·have hil : i = t.length := by omega
   subst hil
   rw [List.take_length] at hok
   rw [gZ]
   have h16 : ∀ l ∈ t, l.length ≤ 16 := fun l hl => by
    have h := List.all_eq_true.1 hok l hl
    unfold threadOk at h
    simp only [Bool.and_eq_true, decide_eq_true_eq] at h
    exact h.1
   have hr : ∀ l ∈ t, ∀ s ∈ l, s.right = true := fun l hl s hs => by
    have h := List.all_eq_true.1 hok l hl
    unfold threadOk at h
    simp only [Bool.and_eq_true] at h
    exact List.all_eq_true.1 h.2 s hs
   have c1 := lN t hn4 h16 hr
   have e : checkT t = if 8 < accs t.flatten ∨ 10000 < waysT t then 2 else 0 := by
    unfold checkT
    rw [if_neg h0, if_neg (by rw [hok]; decide)]
   rw [e]
   refine run ?_; refine aoR fun _ => ?_
   refine run ?_; refine cnd ?_ ?_
   refine uB fun _ => ?_; try omega
   refine uC fun _ => ?_; try omega
   refine run ?_; refine aoR fun _ => ?_
   refine run ?_
   apply spF; exact rfl
   intro hc_
   have hp_ := hc_; try simp only [nrm] at hp_
   apply uI; (exact EvM.plain rfl rfl); exact .fn _ _ _; exact vF; exact c1
   refine run ?_; refine cnd ?_ ?_
   refine yR (fun hc_ => ?_); (try simp only [nrm] at hc_)
   refine run ?_; refine aoR fun _ => ?_
   refine run ?_; rotate_left
   refine yS ?_
   iterate 2 refine uC fun _ => ?_; try omega
   refine run ?_; refine aoR fun _ => ?_
   refine run ?_; rotate_left
   all_goals (refine xZ rfl ?_; split <;> first | rfl | (exfalso; omega))
def smallB (t : Ts) : Bool := decide (t.length ≤ 6) && (t.all fun l => decide (l.length ≤ 20)) && (decide (checkT t ≠ 0) || decide (waysT t ≤ 400))
set_option maxHeartbeats 4000000 in
theorem lI (t : Ts) : Pure E.P 28 [testOV t] (.bool (smallB t)) := by
 have f1 : Frozen 1 := ⟨trivial⟩
 have c1 := jJ t
 refine fnA Tryz.func28 Tryz.ntmps28 ?_
 by_cases h6 : 6 < t.length
 ·have e : smallB t = false := by unfold smallB; rw [decide_eq_false (by omega)]; rfl
  rw [e]
  refine run ?_; refine aoR fun _ => ?_
  refine run ?_; refine aoR fun _ => ?_
  refine run ?_; refine cnd ?_ ?_
  refine uB fun _ => ?_; try omega
  refine run ?_; refine aoR fun _ => ?_
  refine run ?_; rotate_left
  refine uC fun _ => ?_; try omega
  all_goals first | exact uQ rfl rfl | (exfalso; omega)
 ·refine run ?_
  refine aoR fun _ => ?_; refine run ?_
  refine aoR fun _ => ?_; refine run ?_
  refine cnd ?_ ?_
  refine uB fun _ => ?_; try omega
  refine uC fun _ => ?_; try omega
  refine run ?_; refine aoR fun _ => ?_
  refine run ?_; rotate_left
  all_goals try omega
  refine uW (X := Nat) (fun i => tmL [(1, .d (.pt [.sl 1 (t.map catRowT)] 0)), (3, .int .i64 i)]) (fun _ => stL []) (fun i => i ≤ t.length ∧ ((t.take i).all fun l => decide (l.length ≤ 20)) = true) (fun i => t.length - i) 0 ⟨Nat.zero_le _, rfl⟩ leP leP ?_
  rintro i ⟨hi, hok⟩
  by_cases hlt : i < t.length
  ·by_cases h20 : 20 < (t.getD (i : Int).toNat default).length
   ·have e : smallB t = false := by
     unfold smallB
     rw [List.all_eq_false.2 ⟨t.getD i default, vM hlt, by rw [Int.toNat_natCast] at h20; simpa using h20⟩]; simp
    rw [e]
    refine run ?_; refine aoR fun _ => ?_
    refine run ?_; refine cnd ?_ ?_
    refine uB fun _ => ?_; try omega
    refine run ?_; refine aoR fun _ => ?_
    refine run ?_; refine cnd ?_ ?_
    refine uB fun _ => ?_; try omega
    refine run ?_; refine aoR fun _ => ?_
    refine run ?_; rotate_left
    iterate 2 refine uC fun _ => ?_; try omega
    all_goals first | exact uQ rfl rfl | (exfalso; omega)
   ·refine run ?_
    refine aoR fun _ => ?_; refine run ?_
    refine cnd ?_ ?_
    refine uB fun _ => ?_; try omega
    refine run ?_; refine aoR fun _ => ?_
    refine run ?_; refine cnd ?_ ?_
    refine uB fun _ => ?_; try omega
    refine uC fun _ => ?_; try omega
    refine run ?_; refine aoR fun _ => ?_
    refine run ?_; rotate_left
    refine uC fun _ => ?_; try omega
    all_goals try omega
    refine uT (i + 1) ⟨by omega, ?_⟩ (by omega) leP leP
    rw [vL t default i hlt, List.all_append, hok, List.all_cons, decide_eq_true (by rw [Int.toNat_natCast] at h20; omega)]; rfl
  ·have hil : i = t.length := by omega
   subst hil
   rw [List.take_length] at hok
   have e : smallB t = (decide (checkT t ≠ 0) || decide (waysT t ≤ 400)) := by
    unfold smallB
    rw [decide_eq_true (by omega : t.length ≤ 6), hok]; rfl
   rw [e]
   by_cases hc : checkT t = 0
   ·obtain ⟨g1, g2, g3⟩ := cK hc
    have c2 := lN t g2 (fun l hl => (g3 l hl).1) (fun l hl => (g3 l hl).2)
    rw [hc] at c1 ⊢
    refine run ?_; refine aoR fun _ => ?_
    refine run ?_; refine cnd ?_ ?_
    refine uB fun _ => ?_; try omega
    refine uC fun _ => ?_; try omega
    refine run ?_; refine aoR fun _ => ?_
    refine run ?_
    apply uD; exact rfl; exact .fn _ _ _; exact rfl; exact c1
    refine run ?_
    apply spF; exact rfl
    intro hc_
    have hp_ := hc_; try simp only [nrm] at hp_
    apply uI; (exact EvM.plain rfl rfl); exact .fn _ _ _; exact vF; exact c2
    refine run ?_; rotate_left
    all_goals (refine uQ rfl ?_; simp)
   ·refine run ?_
    refine aoR fun _ => ?_; refine run ?_
    refine cnd ?_ ?_
    refine uB fun _ => ?_; try omega
    refine uC fun _ => ?_; try omega
    refine run ?_; refine aoR fun _ => ?_
    refine run ?_
    apply uD; exact rfl; exact .fn _ _ _; exact rfl; exact c1
    refine run ?_
    apply spF; exact rfl
    intro hc_
    have hp_ := hc_; try simp only [nrm] at hp_
    (apply uI; (exact EvM.plain rfl rfl); exact .fn _ _ _; exact vF; exact (show Pure E.P _ _ (.int .i64 (waysT t)) from by exfalso; simp [hc] at hc_))
    refine run ?_; rotate_left
    all_goals (refine uQ rfl ?_; simp [hc])
set_option maxRecDepth 100000
open Go.RowKit Go.Lib
theorem fQ {t : Ts} (h : smallB t = true) : t.length ≤ 6 ∧ ∀ l ∈ t, l.length ≤ 1152921504606846976 := by
 unfold smallB at h
 simp only [Bool.and_eq_true, decide_eq_true_eq, List.all_eq_true] at h
 exact ⟨h.1.1, fun l hl => Nat.le_trans (h.1.2 l hl) (by decide)⟩
set_option maxHeartbeats 4000000 in
theorem texts_p (a b : Ts) (ha : n32T a) : Pure E.P 11 [testOV a, testOV b] (.bool true) := by
 have f2 : Frozen 2 := ⟨trivial⟩
 have f3 : Frozen 3 := ⟨trivial⟩
 have cw := works_p
 have cn := fun n => num_p n
 have s1 := lI a
 have s2 := lI b
 cases h1 : smallB a with
 | false =>
  rw [h1] at s1
  refine fnA Tryz.func11 Tryz.ntmps11 ?_
  refine run ?_; refine aoR fun _ => ?_
  refine run ?_; refine aoR fun _ => ?_
  refine run ?_
  apply uD; exact rfl; exact .fn _ _ _; exact rfl; (exact s1)
  refine run ?_
  apply spF; exact rfl
  intro hc_
  have hp_ := hc_; try simp only [nrm] at hp_
  apply uI; (exact EvM.plain rfl rfl); exact .fn _ _ _; exact vF; (exact s2)
  refine run ?_; refine cnd ?_ ?_
  refine yR (fun hc_ => ?_); (try simp only [nrm] at hc_)
  refine run ?_; refine aoR fun _ => ?_
  apply uD; exact rfl; exact .fn _ _ _; exact rfl; (exact cw)
  refine run ?_; rotate_left
  refine yS ?_; refine wD ?_
  exact wS
  all_goals exact uQ rfl rfl
 | true =>
  rw [h1] at s1
  cases h2 : smallB b with
  | false =>
   rw [h2] at s2
   refine fnA Tryz.func11 Tryz.ntmps11 ?_
   refine run ?_; refine aoR fun _ => ?_
   refine run ?_; refine aoR fun _ => ?_
   refine run ?_
   apply uD; exact rfl; exact .fn _ _ _; exact rfl; (exact s1)
   refine run ?_
   apply spF; exact rfl
   intro hc_
   have hp_ := hc_; try simp only [nrm] at hp_
   apply uI; (exact EvM.plain rfl rfl); exact .fn _ _ _; exact vF; (exact s2)
   refine run ?_; refine cnd ?_ ?_
   refine yR (fun hc_ => ?_); (try simp only [nrm] at hc_)
   refine run ?_; refine aoR fun _ => ?_
   apply uD; exact rfl; exact .fn _ _ _; exact rfl; (exact cw)
   refine run ?_; rotate_left
   refine yS ?_; refine wD ?_; refine vI ?_; refine wD ?_
   exact wS
   all_goals exact uQ rfl rfl
  | true =>
   rw [h2] at s2
   obtain ⟨a1, a2⟩ := fQ h1
   obtain ⟨b1, b2⟩ := fQ h2
   have m1 := mV a b (by omega) (by omega) a2 b2
   have m2 := rsame_p a b (by omega) (by omega) a2 b2
   have m3 := mV a a (by omega) (by omega) a2 a2
   rw [decide_eq_true (rfl : a = a)] at m3
   have cr := jJ a
   have cc := eW a
   obtain ⟨q, hq⟩ : ∃ q, q = decide (a = b) := ⟨_, rfl⟩
   rw [← hq] at m1 m2
   by_cases hc : checkT a = 0
   ·have cp := print_p a hc ha
    have cl := rprint_p a hc ha
    rw [hc] at cr cc
    refine fnA Tryz.func11 Tryz.ntmps11 ?_
    refine run ?_; refine aoR fun _ => ?_
    refine run ?_; refine aoR fun _ => ?_
    refine run ?_
    apply uD; exact rfl; exact .fn _ _ _; exact rfl; (exact s1)
    refine run ?_
    apply spF; exact rfl
    intro hc_
    have hp_ := hc_; try simp only [nrm] at hp_
    apply uI; (exact EvM.plain rfl rfl); exact .fn _ _ _; exact vF; (exact s2)
    refine run ?_; refine cnd ?_ ?_
    refine yR (fun hc_ => ?_); (try simp only [nrm] at hc_)
    refine run ?_; refine aoR fun _ => ?_
    apply uD; exact rfl; exact .fn _ _ _; exact rfl; (exact cw)
    refine run ?_; rotate_left
    refine yS ?_; refine wD ?_; refine vI ?_; refine wD ?_; refine vI ?_; refine run ?_; refine aoR fun _ => ?_
    refine run ?_
    apply uD; exact rfl; exact .fn _ _ _; exact rfl; (exact cp)
    refine run ?_; refine aoR fun _ => ?_
    refine run ?_
    apply uD; exact rfl; exact .fn _ _ _; exact rfl; (exact cr)
    refine run ?_
    refine uF (E := E) ?_ (fun _ => ?_); exact rfl
    refine run ?_
    apply vK; exact rfl; exact .fn _ _ _; exact rfl; (exact cc)
    apply vK; exact rfl; exact .fn _ _ _; exact rfl; (exact cn _)
    refine run ?_
    apply dpF; exact rfl
    intro hc_
    have hp_ := hc_; try simp only [nrm] at hp_
    apply uI; (exact EvM.plain rfl rfl); exact .fn _ _ _; exact vF; (exact cn _)
    refine run ?_
    apply dpF; exact rfl
    intro hc_
    have hp_ := hc_; try simp only [nrm] at hp_
    apply uI; (exact EvM.plain rfl rfl); exact .fn _ _ _; exact vF; (exact m1)
    refine run ?_
    apply dpF; exact rfl
    intro hc_
    have hp_ := hc_; try simp only [nrm] at hp_
    apply uI; (exact EvM.plain rfl rfl); exact .fn _ _ _; exact vF; (exact m2)
    refine run ?_
    apply dpF; exact rfl
    intro hc_
    have hp_ := hc_; try simp only [nrm] at hp_
    apply uI; (exact EvM.plain rfl rfl); exact .fn _ _ _; exact vF; (exact m3)
    refine run ?_; refine cnd ?_ ?_
    refine yR (fun hc_ => ?_); (try simp only [nrm] at hc_)
    refine run ?_; refine aoR fun _ => ?_
    refine run ?_; rotate_left
    iterate 3 refine yS ?_
    iterate 2 (refine wY (fun _ => ?_); (try omega))
    refine wD ?_
    refine vQ (fun _ => ?_)
    refine wD ?_; refine vI ?_; refine run ?_; refine aoR fun _ => ?_
    refine run ?_; refine cnd ?_ ?_
    refine xY (fun _ => ?_); (try omega)
    refine wY (fun _ => ?_); (try omega)
    refine run ?_; refine aoR fun _ => ?_
    refine run ?_
    apply uD; exact rfl; exact .fn _ _ _; exact rfl; (exact cl)
    apply nW; exact rfl; exact rfl
    refine run ?_
    apply spT; exact rfl
    intro hc_
    have hp_ := hc_; try simp only [nrm] at hp_
    apply uI; (exact EvM.plain rfl rfl); exact .fn _ _ _; exact vF; (exact cw)
    refine run ?_; rotate_left
    all_goals first | (exfalso; simp at hc_; done) | (refine uQ rfl ?_; simp; done)
   ·have cp := printNo_p a hc
    refine fnA Tryz.func11 Tryz.ntmps11 ?_
    refine run ?_; refine aoR fun _ => ?_
    refine run ?_; refine aoR fun _ => ?_
    refine run ?_
    apply uD; exact rfl; exact .fn _ _ _; exact rfl; (exact s1)
    refine run ?_
    apply spF; exact rfl
    intro hc_
    have hp_ := hc_; try simp only [nrm] at hp_
    apply uI; (exact EvM.plain rfl rfl); exact .fn _ _ _; exact vF; (exact s2)
    refine run ?_; refine cnd ?_ ?_
    refine yR (fun hc_ => ?_); (try simp only [nrm] at hc_)
    refine run ?_; refine aoR fun _ => ?_
    apply uD; exact rfl; exact .fn _ _ _; exact rfl; (exact cw)
    refine run ?_; rotate_left
    refine yS ?_; refine wD ?_; refine vI ?_; refine wD ?_; refine vI ?_; refine run ?_; refine aoR fun _ => ?_
    refine run ?_
    apply uD; exact rfl; exact .fn _ _ _; exact rfl; (exact cp)
    refine run ?_; refine aoR fun _ => ?_
    refine run ?_
    apply uD; exact rfl; exact .fn _ _ _; exact rfl; (exact cr)
    refine run ?_
    refine uF (E := E) ?_ (fun _ => ?_); exact rfl
    refine run ?_
    apply vK; exact rfl; exact .fn _ _ _; exact rfl; (exact cc)
    apply vK; exact rfl; exact .fn _ _ _; exact rfl; (exact cn _)
    refine run ?_
    apply dpF; exact rfl
    intro hc_
    have hp_ := hc_; try simp only [nrm] at hp_
    apply uI; (exact EvM.plain rfl rfl); exact .fn _ _ _; exact vF; (exact cn _)
    refine run ?_
    apply dpF; exact rfl
    intro hc_
    have hp_ := hc_; try simp only [nrm] at hp_
    apply uI; (exact EvM.plain rfl rfl); exact .fn _ _ _; exact vF; (exact m1)
    refine run ?_
    apply dpF; exact rfl
    intro hc_
    have hp_ := hc_; try simp only [nrm] at hp_
    apply uI; (exact EvM.plain rfl rfl); exact .fn _ _ _; exact vF; (exact m2)
    refine run ?_
    apply dpF; exact rfl
    intro hc_
    have hp_ := hc_; try simp only [nrm] at hp_
    apply uI; (exact EvM.plain rfl rfl); exact .fn _ _ _; exact vF; (exact m3)
    refine run ?_; refine cnd ?_ ?_
    refine yR (fun hc_ => ?_); (try simp only [nrm] at hc_)
    refine run ?_; refine aoR fun _ => ?_
    refine run ?_; rotate_left
    iterate 3 refine yS ?_
    iterate 2 (refine wY (fun _ => ?_); (try omega))
    refine wD ?_
    refine vQ (fun _ => ?_)
    refine wD ?_; refine vI ?_; refine run ?_; refine aoR fun _ => ?_
    refine run ?_; refine cnd ?_ ?_
    refine xY (fun _ => ?_); (try omega)
    refine run ?_; refine aoR fun _ => ?_
    refine run ?_
    apply nW; exact rfl; exact rfl
    refine run ?_
    apply spT; exact rfl
    intro hc_
    have hp_ := hc_; try simp only [nrm] at hp_
    apply uI; (exact EvM.plain rfl rfl); exact .fn _ _ _; exact vF; (exact cw)
    refine run ?_; rotate_left
    refine wY (fun _ => ?_); (try omega)
    all_goals first | (exfalso; simp at hc_; done) | (refine uQ rfl ?_; simp; done)
theorem texts_q (a b : Ts) (_ : a.length ≤ 1152921504606846976) (_ : ∀ l ∈ a, l.length ≤ 1152921504606846976) (ha : n32T a) (_ : b.length ≤ 1152921504606846976) (_ : ∀ l ∈ b, l.length ≤ 1152921504606846976) (_ : n32T b) : Pure E.P 11 [testOV a, testOV b] (.bool true) := texts_p a b ha
set_option maxRecDepth 100000
open Go.RowKit Go.ChangeShapes Go.WideShapes Go.Deep
theorem cells_stp : Tryz.prog.cellsOf 47 = 10 := by kernel_rfl
theorem bytes_stp : 1 ≤ Tryz.prog.bytesOf 47 := of_decide_eq_true (by kernel_rfl)
theorem cells_skind : Tryz.prog.cellsOf 45 = 1 := by kernel_rfl
theorem cells_stps : Tryz.prog.cellsOf 49 = 1 := by kernel_rfl
theorem bytes_stps : 1 ≤ Tryz.prog.bytesOf 49 := of_decide_eq_true (by kernel_rfl)
theorem cells_tst : Tryz.prog.cellsOf 27 = 1 := by kernel_rfl
theorem cells_thr : Tryz.prog.cellsOf 25 = 1 := by kernel_rfl
theorem list10 {α : Type} {l : List α} (h : l.length = 10) : ∃ a b c d e f g i j k, l = [a, b, c, d, e, f, g, i, j, k] := by
 match l, h with
 | [a, b, c, d, e, f, g, i, j, k], _ => exact ⟨a, b, c, d, e, f, g, i, j, k, rfl⟩
section
variable {H : Type} {enc : TypeId × Value → H} {W : World} {sp : Nat → Bool} {held : Bool}
theorem step_rep {fuel : Nat} {cs : List Value} {x : DataW H × List MemPlace} (hlen : cs.length = 10) (h : DataW.trod enc Tryz.prog W 0 sp held fuel 47 cs = some x) :
  ∃ s : Stp, (∀ (j : Nat) (t : TV), (stTV s)[j]? = some t → ∃ v, cs[j]? = some v ∧ Rep (allM W) t v) ∧ s.n32 ∧ cs = [.int .i64 s.kind, .int .i64 s.reg, .int .i64 s.var, .int .u32 s.num, .int .i64 s.data, .int .i64 s.byr, .bool s.aq, .bool s.rl, .int .i64 s.pred, .int .i64 s.succ] := by
 obtain ⟨xs, n, _, rfl, _, hxl, hf⟩ := DataW.trod_struct Tryz.underlying47 h
 obtain ⟨c0, c1, c2, c3, c4, c5, c6, c7, c8, c9, rfl⟩ := list10 hlen
 have hxl : xs.length = 10 := hxl
 obtain ⟨x0, g0⟩ := xR hxl 0 (by decide)
 have t0 := hf 0 ⟨"Kind", 45, 0, false, "", "", 0⟩ rfl
 rw [g0] at t0
 rw [cells_skind, zI (i := 0) rfl] at t0
 obtain ⟨x1, g1⟩ := xR hxl 1 (by decide)
 have t1 := hf 1 ⟨"Reg", 3, 1, false, "", "", 8⟩ rfl
 rw [g1] at t1
 rw [xQ, zI (i := 1) rfl] at t1
 obtain ⟨x2, g2⟩ := xR hxl 2 (by decide)
 have t2 := hf 2 ⟨"Var", 3, 2, false, "", "", 16⟩ rfl
 rw [g2] at t2
 rw [xQ, zI (i := 2) rfl] at t2
 obtain ⟨x3, g3⟩ := xR hxl 3 (by decide)
 have t3 := hf 3 ⟨"Num", 34, 3, false, "", "", 24⟩ rfl
 rw [g3] at t3
 rw [cells_u32, zI (i := 3) rfl] at t3
 obtain ⟨x4, g4⟩ := xR hxl 4 (by decide)
 have t4 := hf 4 ⟨"Data", 3, 4, false, "", "", 32⟩ rfl
 rw [g4] at t4
 rw [xQ, zI (i := 4) rfl] at t4
 obtain ⟨x5, g5⟩ := xR hxl 5 (by decide)
 have t5 := hf 5 ⟨"By", 3, 5, false, "", "", 40⟩ rfl
 rw [g5] at t5
 rw [xQ, zI (i := 5) rfl] at t5
 obtain ⟨x6, g6⟩ := xR hxl 6 (by decide)
 have t6 := hf 6 ⟨"Aq", 4, 6, false, "", "", 48⟩ rfl
 rw [g6] at t6
 rw [eX, zI (i := 6) rfl] at t6
 obtain ⟨x7, g7⟩ := xR hxl 7 (by decide)
 have t7 := hf 7 ⟨"Rl", 4, 7, false, "", "", 49⟩ rfl
 rw [g7] at t7
 rw [eX, zI (i := 7) rfl] at t7
 obtain ⟨x8, g8⟩ := xR hxl 8 (by decide)
 have t8 := hf 8 ⟨"Pred", 3, 8, false, "", "", 56⟩ rfl
 rw [g8] at t8
 rw [xQ, zI (i := 8) rfl] at t8
 obtain ⟨x9, g9⟩ := xR hxl 9 (by decide)
 have t9 := hf 9 ⟨"Succ", 3, 9, false, "", "", 64⟩ rfl
 rw [g9] at t9
 rw [xQ, zI (i := 9) rfl] at t9
 obtain ⟨z0, e0, _, w0⟩ := DataW.trod_int Tryz.underlying45 t0
 obtain ⟨z1, e1, _, w1⟩ := DataW.trod_int Tryz.underlying3 t1
 obtain ⟨z2, e2, _, w2⟩ := DataW.trod_int Tryz.underlying3 t2
 obtain ⟨z3, e3, _, w3⟩ := DataW.trod_int Tryz.underlying34 t3
 obtain ⟨z4, e4, _, w4⟩ := DataW.trod_int Tryz.underlying3 t4
 obtain ⟨z5, e5, _, w5⟩ := DataW.trod_int Tryz.underlying3 t5
 obtain ⟨z6, e6, _⟩ := DataW.trod_bool Tryz.underlying4 t6
 obtain ⟨z7, e7, _⟩ := DataW.trod_bool Tryz.underlying4 t7
 obtain ⟨z8, e8, _, w8⟩ := DataW.trod_int Tryz.underlying3 t8
 obtain ⟨z9, e9, _, w9⟩ := DataW.trod_int Tryz.underlying3 t9
 simp only [List.cons.injEq, and_true] at e0 e1 e2 e3 e4 e5 e6 e7 e8 e9
 refine ⟨⟨z0, z1, z2, z3, z4, z5, z6, z7, z8, z9⟩, ?_, ⟨(mQ w3).1, Int.lt_add_one_iff.1 (mQ w3).2⟩, by rw [e0, e1, e2, e3, e4, e5, e6, e7, e8, e9]⟩
 rw [e0, e1, e2, e3, e4, e5, e6, e7, e8, e9]
 intro j t ht
 match j, ht with
 | 0, ht => cases ht; exact ⟨_, rfl, xV rfl⟩
 | 1, ht => cases ht; exact ⟨_, rfl, xV rfl⟩
 | 2, ht => cases ht; exact ⟨_, rfl, xV rfl⟩
 | 3, ht => cases ht; exact ⟨_, rfl, xV rfl⟩
 | 4, ht => cases ht; exact ⟨_, rfl, xV rfl⟩
 | 5, ht => cases ht; exact ⟨_, rfl, xV rfl⟩
 | 6, ht => cases ht; exact ⟨_, rfl, xV rfl⟩
 | 7, ht => cases ht; exact ⟨_, rfl, xV rfl⟩
 | 8, ht => cases ht; exact ⟨_, rfl, xV rfl⟩
 | 9, ht => cases ht; exact ⟨_, rfl, xV rfl⟩
 | n + 10, ht => cases ht
theorem steps_rep {fuel : Nat} {cs : List Value} {x : DataW H × List MemPlace} (h : DataW.trod enc Tryz.prog W 0 sp held fuel 49 cs = some x) (hw : ∀ n ∈ x.1.weights Tryz.prog 49, n ≤ reachBytes) :
  ∃ (v : Value) (l : List Stp), cs = [v] ∧ Rep (allM W) (stsTV l) v ∧ l.length ≤ 1152921504606846976 ∧ ∀ s ∈ l, s.n32 := by
 rcases open_slice Tryz.underlying49 h with ⟨rfl, rfl⟩ | ⟨a, len, cap, m, n, D, Pl, rfl, hb, hl, hm, hmm, rfl, hx⟩
 ·exact ⟨_, [], rfl, by unfold stsTV; rw [Rep]; exact ⟨none, 0, rfl, Nat.le_refl _, Or.inl rfl⟩, by simp, by simp⟩
 ·have hle : len ≤ m := by rw [hmm]; split <;> omega
  obtain ⟨hwt, hwe⟩ := lD Tryz.underlying49 hw
  rw [cells_stp] at hx
  obtain ⟨E, hE⟩ := choose_lt (α := Stp) (n := len) (p := fun i e => e.n32 ∧ ∀ (j : Nat) (t : TV), (stTV e)[j]? = some t → ∃ v, W.cell? (a.add (i * 10 + j)) = some v ∧ Rep (allM W) t v) (fun i hi => by
   obtain ⟨cs', h1, h2⟩ := hx i (by omega)
   obtain ⟨_, h3, h4⟩ := World.cells?_some h1
   obtain ⟨e, he, hok, _⟩ := step_rep h3 h2
   refine ⟨e, hok, fun j t hj => ?_⟩
   have hj3 : j < 10 := (List.getElem?_eq_some_iff.1 hj).1
   obtain ⟨v, h5, h6⟩ := he j t hj
   have := h4 j hj3
   rw [add_add, h5] at this
   exact ⟨v, this, h6⟩)
  have hL : ((List.range len).map E).length = len := by simp
  refine ⟨_, (List.range len).map E, rfl, ?_, ?_, ?_⟩
  ·unfold stsTV
   rw [Rep]
   refine ⟨some a, cap, by simp, by simpa using hl, ?_⟩
   by_cases h0 : len = 0
   ·left; subst h0; simp
   ·right
    obtain ⟨_, g0⟩ := hE 0 (by omega)
    obtain ⟨v0, g0, _⟩ := g0 0 _ rfl
    obtain ⟨hs, _⟩ := mK g0
    have ea := mM (a := a) hs
    refine ⟨a.block, a.off, by rw [← ea], RepR.of_get fun i r hi => ?_⟩
    rw [List.getElem?_map] at hi
    obtain ⟨e, he, rfl⟩ := Option.map_eq_some_iff.1 hi
    obtain ⟨hlt, rfl⟩ := List.getElem?_eq_some_iff.1 he
    rw [hL] at hlt
    simp only [List.getElem_map, List.getElem_range]
    refine ⟨rfl, RepC.of_get fun o t ht => ?_⟩
    obtain ⟨v, g1, g2⟩ := (hE i hlt).2 o t ht
    rw [ea, WideShapes.add_plain] at g1
    exact ⟨v, by rw [Nat.add_assoc]; exact g1, g2⟩
  ·rw [hL]
   simp only [List.length_map, List.length_range] at hwt
   have h2 : len ≤ (len + (m - len)) * Tryz.prog.bytesOf 47 := by
    refine Nat.le_trans ?_ (Nat.le_mul_of_pos_right _ (by have := bytes_stp; omega)); omega
   unfold reachBytes at hwt
   omega
  ·intro e he
   obtain ⟨i, hi, rfl⟩ := List.mem_map.1 he
   exact (hE i (List.mem_range.1 hi)).1
theorem threads_rep {fuel : Nat} {cs : List Value} {x : DataW H × List MemPlace} (h : DataW.trod enc Tryz.prog W 0 sp held fuel 25 cs = some x) (hw : ∀ n ∈ x.1.weights Tryz.prog 25, n ≤ reachBytes) :
  ∃ (v : Value) (t : Ts), cs = [v] ∧ Rep (allM W) (.sl 1 (t.map catRowT)) v ∧ t.length ≤ 1152921504606846976 ∧ (∀ l ∈ t, l.length ≤ 1152921504606846976) ∧ n32T t := by
 rcases open_slice1 Tryz.underlying25 cells_stps h with ⟨rfl, rfl⟩ | ⟨a, len, cap, m, n, V, D, Pl, rfl, hb, hl, hm, hmm, rfl, hx⟩
 ·exact ⟨_, [], rfl, by rw [Rep]; exact ⟨none, 0, rfl, Nat.le_refl _, Or.inl rfl⟩, by simp, by simp, by simp [n32T]⟩
 ·have hle : len ≤ m := by rw [hmm]; split <;> omega
  obtain ⟨hwt, hwe⟩ := lD Tryz.underlying25 hw
  obtain ⟨E, hE⟩ := choose_lt (α := List Stp) (n := len) (p := fun i r => (r.length ≤ 1152921504606846976 ∧ ∀ s ∈ r, Stp.n32 s) ∧ ∃ v, W.cell? (a.add i) = some v ∧ Rep (allM W) (stsTV r) v) (fun i hi => by
   obtain ⟨h1, h2⟩ := hx i (by omega)
   obtain ⟨v, l, e1, e2, e3, e4⟩ := steps_rep h2 (hwe _ (by simp only [List.mem_map, List.mem_range]; exact ⟨i, hi, rfl⟩))
   simp only [List.cons.injEq, and_true] at e1
   rw [e1] at h1
   exact ⟨l, ⟨e3, e4⟩, v, h1, e2⟩)
  have hL : ((List.range len).map E).length = len := by simp
  refine ⟨_, (List.range len).map E, rfl, ?_, ?_, ?_, ?_⟩
  ·rw [Rep]
   refine ⟨some a, cap, by simp, by simpa using hl, ?_⟩
   by_cases h0 : len = 0
   ·left; subst h0; simp
   ·right
    obtain ⟨_, v0, g0, _⟩ := hE 0 (by omega)
    obtain ⟨hs, _⟩ := mK g0
    have ea := mM (a := a) hs
    refine ⟨a.block, a.off, by rw [← ea], RepR.of_get fun i r hi => ?_⟩
    rw [List.getElem?_map] at hi
    obtain ⟨e, he, rfl⟩ := Option.map_eq_some_iff.1 hi
    obtain ⟨hlt, rfl⟩ := List.getElem?_eq_some_iff.1 he
    rw [hL] at hlt
    simp only [List.getElem_map, List.getElem_range]
    refine ⟨rfl, RepC.of_get fun o t ht => ?_⟩
    cases o with
    | succ o => simp [catRowT] at ht
    | zero =>
     simp [catRowT] at ht
     subst ht
     obtain ⟨v, g1, g2⟩ := (hE i hlt).2
     rw [ea, WideShapes.add_plain] at g1
     exact ⟨v, by simpa [allM] using g1, g2⟩
  ·rw [hL]
   simp only [List.length_map, List.length_range] at hwt
   have h2 : len ≤ (len + (m - len)) * Tryz.prog.bytesOf 49 := by
    refine Nat.le_trans ?_ (Nat.le_mul_of_pos_right _ (by have := bytes_stps; omega)); omega
   unfold reachBytes at hwt
   omega
  ·intro r hr
   obtain ⟨i, hi, rfl⟩ := List.mem_map.1 hr
   exact (hE i (List.mem_range.1 hi)).1.1
  ·intro r hr
   obtain ⟨i, hi, rfl⟩ := List.mem_map.1 hr
   exact (hE i (List.mem_range.1 hi)).1.2
theorem jD {r : Reach} {b0 : Nat} {v : Value} {d : DataW H} {p : List MemPlace} (hv : Value.okWide Tryz.prog W r b0 27 v) (h : DataW.Trod enc Tryz.prog W 0 sp held 27 v d p) (hw : ∀ n ∈ d.weights Tryz.prog 27, n ≤ reachBytes) :
  ∃ t : Ts, (∀ kn, RepO (allG W kn) (testOV t) v) ∧ t.length ≤ 1152921504606846976 ∧ (∀ l ∈ t, l.length ≤ 1152921504606846976) ∧ n32T t := by
 obtain ⟨cs, rfl, hsz⟩ := okWide_struct Tryz.underlying27 hv
 obtain ⟨fuel, hf⟩ := h
 have hlen : cs.toList.length = 1 := by rw [Array.length_toList, hsz, cells_tst]
 obtain ⟨xs, n, _, e, _, hxl, hf⟩ := DataW.trod_struct Tryz.underlying27 hf
 have hxl : xs.length = 1 := hxl
 obtain ⟨c0, hc0⟩ : ∃ c0, cs.toList = [c0] := List.length_eq_one_iff.1 hlen
 obtain ⟨x0, g0⟩ := xR hxl 0 (by decide)
 have t0 := hf 0 ⟨"Threads", 25, 0, false, "", "", 0⟩ rfl
 have hc0' : (Value.agg cs).cells.toList = [c0] := hc0
 rw [g0, hc0'] at t0
 rw [cells_thr, zI (i := 0) rfl] at t0
 simp only [Prod.mk.injEq] at e
 obtain ⟨rfl, _⟩ := e
 obtain ⟨v, t, e1, e2, e3, e4, e5⟩ := threads_rep t0 (w_struct Tryz.underlying27 hw (i := 0) rfl (by rw [List.getElem?_map, g0]; rfl))
 simp only [List.cons.injEq, and_true] at e1
 subst e1
 refine ⟨t, fun kn => ?_, e3, e4, e5⟩
 unfold testOV
 rw [RepO]
 refine ⟨cs, rfl, ?_⟩
 rw [hc0, RepOL]
 exact ⟨_, _, rfl, by rw [RepO]; exact e2, by rw [RepOL]⟩
end
set_option maxRecDepth 100000
open Go.RowKit Go.Lib
def pow10L : List Int := (List.range 20).map fun i => ((10 ^ i : Nat) : Int)
def powVar : String × DataW Unit := Rows.litmusStepsRow.laid.getD 2 ("", .nil)
theorem powG : Tryz.prog.globalNamed powVar.1 = some 1 := by kernel_rfl
theorem pow_of {L : List (String × DataW Unit)} (hf : (L.filter fun x => x.1.length == 28) = [powVar]) {W : World} (h : laidMetH Tryz.prog L W) : Pow10 W := by
 have h1 := h.filter fun x => x.1.length == 28
 rw [hf, MakeChecks.laidMetH_plain _ _ _ (by kernel_rfl)] at h1
 have hd : powVar = (powVar.1, tabData .u64 pow10L) := by kernel_rfl
 rw [hd] at h1
 have hT : Lib.TabIs Tryz.prog W powVar.1 .u64 pow10L := tabIs_of_head powG (by kernel_rfl) Tryz.underlying306 Tryz.underlying178 (by kernel_rfl) (by kernel_rfl) h1
 intro i hi
 have hl : pow10L.length = 20 := by decide
 rw [hT.cell powG i (by omega)]
 simp [pow10L, List.getD, hi]
end Go.Proofs.YtjogffchdejabaaGreatDoor
