/- Parts. -/
import Derived.Test.YtnkocjkkefnelaaGreatPn6
import Derived.Test.YtnkocjkkefnelaaGreatPn8
import Derived.Test.YtnkocjkkefnelaaGreatPn30
import Derived.Test.YtnkocjkkefnelaaGreatPn35
set_option linter.unusedVariables false
set_option linter.unusedSimpArgs false
set_option maxHeartbeats 4000000
set_option maxRecDepth 100000
namespace Go.Proofs.YtnkocjkkefnelaaGreat
open Go.RowKit
def evRn (e : Ev) : List OV := (evTV e).map .d
def oRow (l : List Int) : List OV := [.d (ints l)]
def actTV (c : OnA) : List TV := [.c (.int .u8 c.at_), .c (.bool c.st), .c (.int .u32 c.v)]
def actsTV (l : List OnA) : TV := .sl 3 (l.map actTV)
def onSt (v3 : Nat) (s : OnS) (τE τF τO : Stamp) : List (Nat × (Stamp × Row)) :=
 [(3, ((v3, 1), ⟨3, [[.os 900 τE 13 s.es.length, .os 901 τF 1 s.fs.length, .os 902 τO 1 s.os.length]]⟩)), (900, (τE, ⟨13, s.es.map evRn⟩)), (901, (τF, ⟨1, s.fs.map (cellO .i64)⟩)), (902, (τO, ⟨1, s.os.map oRow⟩))]
def onBe (a : Nat) : OnS := ⟨on0.es.take a, on0.fs.take a, on0.os.take a, -1⟩
theorem lM (l : List OnA) : ∀ i, (onTo l i).os.length = 4 ∧ (onTo l i).fs.length = i + 4
 | 0 => ⟨rfl, rfl⟩
 | i + 1 => by
  obtain ⟨h1, h2⟩ := lM l i
  refine ⟨?_, ?_⟩
  ·show (if (l.getD i default).st = true then (onTo l i).os.set _ _ else (onTo l i).os).length = 4
   split
   ·rw [List.length_set]; exact h1
   ·exact h1
  ·show ((onTo l i).fs ++ [_]).length = _
   rw [List.length_append, h2]; simp
theorem on_rlen {s : OnS} (h : OnOk s) (c : OnA) : (onRow c s).length ≤ s.es.length := by
 have hc := (uV h.check).2.2.2
 have hm := (wM hc).2 (onW c) (by show _ < (s.os.map _).length; rw [List.length_map, h.ol]; exact lL c)
 have e := congrArg List.length hm.1
 unfold sortI at e
 rw [List.length_mergeSort, cX] at e
 have := gR s.ex.evs ((addrsTo s.ex.evs).getD (onW c) 0) s.ex.evs.length
 rw [← e] at this
 exact this
set_option maxHeartbeats 8000000 in
theorem lawOne_p (l : List OnA) (hl : ∀ c ∈ l, c.ok) (hll : l.length ≤ 1152921504606846976) : Pure E.P 6 [.d (actsTV l)] (.bool true) := by
 have hkn := known8_p
 have n31 : NilS 31 := ⟨trivial⟩
 have n83 : NilS 83 := ⟨trivial⟩
 have n101 : NilS 101 := ⟨trivial⟩
 have f43 : Frozen 43 := ⟨trivial⟩
 have f114 : Frozen 114 := ⟨trivial⟩
 have k33 : KeyOf 33 900 := ⟨trivial⟩
 have k38 : KeyOf 38 901 := ⟨trivial⟩
 have k45 : KeyOf 45 902 := ⟨trivial⟩
 have k126 : KeyOf 126 900 := ⟨trivial⟩
 have k105 : KeyOf 105 901 := ⟨trivial⟩
 have k120 : KeyOf 120 901 := ⟨trivial⟩
 refine fnA Tryz.func6 Tryz.ntmps6 ?_
 by_cases h12 : l.length ≤ 12
 rotate_left
 ·refine run ?_
  refine aoR fun _ => ?_; refine run ?_
  refine aoR fun _ => ?_; refine run ?_
  refine cnd ?_ ?_
  refine uN fun _ => ?_; try omega
  refine run ?_; refine aoR fun _ => ?_
  apply uO; exact rfl; exact .fn _ _ _; exact rfl; exact hkn
  refine run ?_; rotate_left
  refine uR fun _ => ?_; try omega
  exact vI rfl rfl
 refine run ?_; refine aoR fun _ => ?_
 refine run ?_; refine aoR fun _ => ?_
 refine run ?_; refine cnd ?_ ?_
 refine uN fun _ => ?_; try omega
 refine uR fun _ => ?_; try omega
 refine run ?_; refine aoR fun _ => ?_
 refine run ?_; refine aoR fun _ => ?_
 refine run ?_; rotate_left
 rename_i v3 _
 refine jA (kx := 3) (i := 0) (o := 0) 900 13 rfl rfl rfl (by decide) fun τE => ?_
 refine jA (kx := 3) (i := 0) (o := 1) 901 1 rfl rfl rfl (by decide) fun τF => ?_
 refine jA (kx := 3) (i := 0) (o := 2) 902 1 rfl rfl rfl (by decide) fun τO => ?_
 refine vJ (X := Nat × Stamp × Stamp × Stamp) (fun y => tmL [(0, .d (actsTV l)), (3, .lo 3 (v3, 1) 3 0 0), (4, .int .i64 y.1)]) (fun y => stL (onSt v3 (onBe y.1) y.2.1 y.2.2.1 y.2.2.2)) (fun y => y.1 ≤ 4) (fun y => 4 - y.1) (0, τE, τF, τO) (Nat.zero_le _) leP leP ?_
 rintro ⟨a, τE, τF, τO⟩ ha
 dsimp only at ha ⊢
 have h04 : a = 0 ∨ a = 1 ∨ a = 2 ∨ a = 3 ∨ a = 4 := by omega
 rcases h04 with rfl | rfl | rfl | rfl | rfl
 ·have b1 : (onBe 0).es.length ≤ 4 := by decide
  have b2 : (onBe 0).fs.length ≤ 4 := by decide
  have b3 : (onBe 0).os.length ≤ 4 := by decide
  refine run ?_; refine aoR fun _ => ?_
  refine run ?_; refine cnd ?_ ?_
  refine uN fun _ => ?_; try omega
  refine run ?_; refine aoR fun _ => ?_
  refine run ?_; refine aoR fun _ => ?_
  refine run ?_; refine aoR fun _ => ?_
  refine run ?_; refine aoR fun _ => ?_
  refine run ?_; rotate_left
  refine uR fun _ => ?_; try omega
  rename_i v7 v8 v9 _
  exact vQ (1, (v7, 7), (v8, 3), (v9, 5)) (by dsimp only; omega) (by dsimp only; omega) leP leP
 ·have b1 : (onBe 1).es.length ≤ 4 := by decide
  have b2 : (onBe 1).fs.length ≤ 4 := by decide
  have b3 : (onBe 1).os.length ≤ 4 := by decide
  refine run ?_; refine aoR fun _ => ?_
  refine run ?_; refine cnd ?_ ?_
  refine uN fun _ => ?_; try omega
  refine run ?_; refine aoR fun _ => ?_
  refine run ?_; refine aoR fun _ => ?_
  refine run ?_; refine aoR fun _ => ?_
  refine run ?_; refine aoR fun _ => ?_
  refine run ?_; rotate_left
  refine uR fun _ => ?_; try omega
  rename_i v7 v8 v9 _
  exact vQ (2, (v7, 7), (v8, 3), (v9, 5)) (by dsimp only; omega) (by dsimp only; omega) leP leP
 ·have b1 : (onBe 2).es.length ≤ 4 := by decide
  have b2 : (onBe 2).fs.length ≤ 4 := by decide
  have b3 : (onBe 2).os.length ≤ 4 := by decide
  refine run ?_; refine aoR fun _ => ?_
  refine run ?_; refine cnd ?_ ?_
  refine uN fun _ => ?_; try omega
  refine run ?_; refine aoR fun _ => ?_
  refine run ?_; refine aoR fun _ => ?_
  refine run ?_; refine aoR fun _ => ?_
  refine run ?_; refine aoR fun _ => ?_
  refine run ?_; rotate_left
  refine uR fun _ => ?_; try omega
  rename_i v7 v8 v9 _
  exact vQ (3, (v7, 7), (v8, 3), (v9, 5)) (by dsimp only; omega) (by dsimp only; omega) leP leP
 ·have b1 : (onBe 3).es.length ≤ 4 := by decide
  have b2 : (onBe 3).fs.length ≤ 4 := by decide
  have b3 : (onBe 3).os.length ≤ 4 := by decide
  refine run ?_; refine aoR fun _ => ?_
  refine run ?_; refine cnd ?_ ?_
  refine uN fun _ => ?_; try omega
  refine run ?_; refine aoR fun _ => ?_
  refine run ?_; refine aoR fun _ => ?_
  refine run ?_; refine aoR fun _ => ?_
  refine run ?_; refine aoR fun _ => ?_
  refine run ?_; rotate_left
  refine uR fun _ => ?_; try omega
  rename_i v7 v8 v9 _
  exact vQ (4, (v7, 7), (v8, 3), (v9, 5)) (by dsimp only; omega) (by dsimp only; omega) leP leP
 ·refine run ?_
  refine aoR fun _ => ?_; refine run ?_
  refine cnd ?_ ?_
  refine uN fun _ => ?_; try omega
  refine uR fun _ => ?_; try omega
  refine run ?_; refine aoR fun _ => ?_
  refine run ?_; refine aoR fun _ => ?_
  refine run ?_; rotate_left
  refine awp_mid (X := Stamp × Stamp) (fun y => tmL [(3, .lo 3 (v3, 1) 3 0 0), (5, .int .i64 (onTo l l.length).old)]) (fun y => stL (onSt v3 (onTo l l.length) y.1 y.2 τO)) (fun _ => True) ?_ ?_
  ·refine vJ (X := Nat × Stamp × Stamp) (fun y => tmL [(0, .d (actsTV l)), (3, .lo 3 (v3, 1) 3 0 0), (5, .int .i64 (onTo l y.1).old), (6, .int .i64 y.1)]) (fun y => stL (onSt v3 (onTo l y.1) y.2.1 y.2.2 τO)) (fun y => y.1 ≤ l.length) (fun y => l.length - y.1) (0, τE, τF) (Nat.zero_le _) leP leP ?_
   rintro ⟨i, τE, τF⟩ hi
   dsimp only at hi ⊢
   by_cases hlt : i < l.length
   rotate_left
   ·have hi' : i = l.length := by omega
    subst hi'
    refine run ?_; refine aoR fun _ => ?_
    refine run ?_; refine cnd ?_ ?_
    refine uN fun _ => ?_; try omega
    refine uR fun _ => ?_; try omega
    refine run ?_; rotate_left
    exact ⟨(τE, τF), trivial, leP, leP⟩
   have hok := lN hl h12 i hi
   have hcm : (l.getD i default).ok := hl _ (by rw [List.getD_eq_getElem?_getD, List.getElem?_eq_getElem hlt]; exact List.getElem_mem _)
   have hst : onTo l (i + 1) = onStep (l.getD i default) (onTo l i) := rfl
   have hln := dQ l i
   obtain ⟨hol, hfln⟩ := lM l i
   generalize onTo l i = s at hok hst hln hol hfln
   obtain ⟨r1, r2, r3, r4, r5, r6⟩ := qP hok (l.getD i default)
   have hrl := on_rlen hok (l.getD i default)
   obtain ⟨b, eb, hb1, _⟩ := (r3 _).1 r5
   have hla : onLast (l.getD i default) s < s.es.length := by omega
   have hwl := lL (l.getD i default)
   have hcv : (0 ≤ (l.getD (i : Int).toNat default).at_ ∧ (l.getD (i : Int).toNat default).at_ < 256) ∧ 0 ≤ (l.getD (i : Int).toNat default).v ∧ (l.getD (i : Int).toNat default).v < 4294967296 := hcm
   obtain ⟨⟨hc1, hc2⟩, hc3, hc4⟩ := hcv
   have hw : (l.getD (i : Int).toNat default).at_.tmod 4 = (onW (l.getD i default) : Int) := by
    show (l.getD i default).at_.tmod 4 = _
    rw [Int.tmod_eq_emod_of_nonneg hcm.1.1]
    unfold onW
    omega
   refine vZ (X := Unit) (fun _ => tmL [(0, .d (actsTV l)), (3, .lo 3 (v3, 1) 3 0 0), (5, .int .i64 s.old), (6, .int .i64 i)]) (fun _ => stL (onSt v3 s τE τF τO)) ?_ fun _ => ?_
   ·refine run ?_
    refine aoR fun _ => ?_; refine run ?_
    refine cnd ?_ ?_
    refine uN fun _ => ?_; try omega
    refine run ?_; rotate_left
    refine uR fun _ => ?_; try omega
    exact aQ () leP leP
   refine uB (uW ?_)
   generalize hw' : onW (l.getD i default) = w at hw hwl
   refine vZ (X := Unit) (fun _ => tmL [(0, .d (actsTV l)), (3, .lo 3 (v3, 1) 3 0 0), (5, .int .i64 s.old), (6, .int .i64 i), (7, .int .i64 w)]) (fun _ => stL (onSt v3 s τE τF τO)) ?_ fun _ => ?_
   ·refine aoR fun _ => ?_
    refine run ?_; rotate_left
    exact aQ () (uL rfl (uL rfl (uL rfl (uL rfl (vM rfl hw (wO _)))))) leP
   refine vZ (X := Unit) (fun _ => tmL [(0, .d (actsTV l)), (3, .lo 3 (v3, 1) 3 0 0), (5, .int .i64 s.old), (6, .int .i64 i), (7, .int .i64 w), (8, .int .i64 s.es.length)]) (fun _ => stL (onSt v3 s τE τF τO)) ?_ fun _ => ?_
   ·refine aoR fun _ => ?_
    refine run ?_; rotate_left
    exact aQ () leP leP
   have hrow : onRow (l.getD i default) s = s.os.getD w [] := by unfold onRow; rw [hw']
   generalize hrw : onRow (l.getD i default) s = row at hrow r1 r2 r3 r4 r5 r6 hrl
   refine vZ (X := Unit) (fun _ => tmL [(0, .d (actsTV l)), (3, .lo 3 (v3, 1) 3 0 0), (5, .int .i64 s.old), (6, .int .i64 i), (7, .int .i64 w), (8, .int .i64 s.es.length), (9, .d (ints row))]) (fun _ => stL (onSt v3 s τE τF τO)) ?_ fun _ => ?_
   ·refine aoR fun _ => ?_
    refine run ?_; rotate_left
    rw [hrow]
    exact aQ () leP leP
   have hlast : row.getD ((row.length : Int) - 1).toNat (default : Int) = (onLast (l.getD i default) s : Int) := by
    have h1 : ((row.length : Int) - 1).toNat = row.length - 1 := by omega
    rw [h1]
    unfold onLast
    rw [hrw]
    have h2 : row.getD (row.length - 1) 0 ∈ row := by
     rw [List.getD_eq_getElem?_getD, List.getElem?_eq_getElem (by omega)]; exact List.getElem_mem _
    obtain ⟨b', e', _⟩ := (r3 _).1 h2
    show row.getD (row.length - 1) 0 = _
    omega
   generalize hLa : onLast (l.getD i default) s = la at hlast hla r4 r5 eb
   refine vZ (X := Unit) (fun _ => tmL [(0, .d (actsTV l)), (3, .lo 3 (v3, 1) 3 0 0), (5, .int .i64 s.old), (6, .int .i64 i), (7, .int .i64 w), (8, .int .i64 s.es.length), (9, .d (ints row)), (10, .int .i64 la)]) (fun _ => stL (onSt v3 s τE τF τO)) ?_ fun _ => ?_
   ·refine aoR fun _ => ?_
    refine run ?_; rotate_left
    exact aQ () (uL rfl (uL rfl (uL rfl (uL rfl (uL rfl (uL rfl (uL rfl (vM rfl hlast (wO _))))))))) leP
   have hstep : onStep (l.getD i default) s = ⟨s.es ++ [if (l.getD i default).st = true then evo 0 2 (4 * (w : Int)) (l.getD i default).v 0 else evo 0 1 (4 * (w : Int)) 0 (s.es.getD la default).val], s.fs ++ [if (l.getD i default).st = true then -1 else (la : Int)], if (l.getD i default).st = true then s.os.set w (row ++ [(s.es.length : Int)]) else s.os, if 1 < row.length then (s.es.length : Int) else s.old⟩ := by
    unfold onStep onEv onFrom
    rw [hrw, hLa, hw']
   refine vZ (X := Stamp) (fun τ => tmL [(0, .d (actsTV l)), (3, .lo 3 (v3, 1) 3 0 0), (5, .int .i64 s.old), (6, .int .i64 i), (7, .int .i64 w), (8, .int .i64 s.es.length), (9, .d (ints row)), (10, .int .i64 la), (11, .lo 11 τ 13 0 0)]) (fun τ => stL ((11, (τ, ⟨13, [evRn (evo 0 1 (4 * (w : Int)) 0 (s.es.getD la default).val)]⟩)) :: onSt v3 s τE τF τO)) ?_ fun τ => ?_
   ·refine aoR fun _ => ?_
    refine run ?_; rotate_left
    rename_i v18
    exact aQ (v18, 10) leP leP
   refine vZ (X := Unit) (fun _ => tmL [(0, .d (actsTV l)), (3, .lo 3 (v3, 1) 3 0 0), (5, .int .i64 (if 1 < row.length then (s.es.length : Int) else s.old)), (6, .int .i64 i), (7, .int .i64 w), (8, .int .i64 s.es.length), (9, .d (ints row)), (10, .int .i64 la), (11, .lo 11 τ 13 0 0)]) (fun _ => stL ((11, (τ, ⟨13, [evRn (evo 0 1 (4 * (w : Int)) 0 (s.es.getD la default).val)]⟩)) :: onSt v3 s τE τF τO)) ?_ fun _ => ?_
   ·refine run ?_
    refine aoR fun _ => ?_; refine run ?_
    refine cnd ?_ ?_
    refine uN fun _ => ?_; try omega
    refine aoR fun _ => ?_; refine run ?_
    rotate_left
    refine uR fun _ => ?_; try omega
    refine run ?_; rotate_left
    ·rename_i h1 _
     rw [if_pos (by omega)]
     exact aQ () leP leP
    ·rename_i h1
     rw [if_neg (by omega)]
     exact aQ () leP leP
   generalize (if 1 < row.length then (s.es.length : Int) else s.old) = old' at hstep
   refine vZ (X := Stamp) (fun _ => tmL [(0, .d (actsTV l)), (3, .lo 3 (v3, 1) 3 0 0), (5, .int .i64 old'), (6, .int .i64 i), (11, .lo 11 τ 13 0 0)]) (fun τF' => stL ((11, (τ, ⟨13, [evRn (if (l.getD i default).st = true then evo 0 2 (4 * (w : Int)) (l.getD i default).v 0 else evo 0 1 (4 * (w : Int)) 0 (s.es.getD la default).val)]⟩)) :: onSt v3 ⟨s.es, s.fs ++ [if (l.getD i default).st = true then -1 else (la : Int)], if (l.getD i default).st = true then s.os.set w (row ++ [(s.es.length : Int)]) else s.os, old'⟩ τE τF' τO)) ?_ fun τF' => ?_
   ·refine run ?_
    refine aoR fun _ => ?_; refine run ?_
    refine cnd ?_ ?_
    refine iM (fun _ => ?_)
    refine run ?_; refine aoR fun _ => ?_
    refine run ?_; refine aoR fun _ => ?_
    refine run ?_
    refine vF (E := E) ?_ (fun _ => ?_); exact rfl
    refine run ?_; rotate_left
    refine qT (fun _ => ?_)
    refine aoR fun _ => ?_; refine run ?_
    rotate_left
    ·rename_i h1 _ v23 _
     have h1' : (l.getD i default).st = true := h1
     rw [if_pos h1', if_pos h1', if_pos h1']
     exact aQ (v23, 3) leP (vK rfl (vA rfl (by simp <;> rfl) (vK rfl (vA rfl (by simp <;> rfl) (vA rfl (by rw [List.map_set]; unfold oRow ints; rw [List.map_append]; rfl) (wD _))))))
    ·rename_i h1 v25
     have h1' : ¬ (l.getD i default).st = true := by rw [show (l.getD i default).st = false from h1]; decide
     rw [if_neg h1', if_neg h1', if_neg h1']
     exact aQ (v25, 4) leP (vK rfl (vA rfl (by simp <;> rfl) (vK rfl (vA rfl (by simp <;> rfl) (vK rfl (wD _))))))
   generalize (if (l.getD i default).st = true then evo 0 2 (4 * (w : Int)) (l.getD i default).v 0 else evo 0 1 (4 * (w : Int)) 0 (s.es.getD la default).val) = E at hstep ⊢
   generalize (if (l.getD i default).st = true then -1 else (la : Int)) = F at hstep ⊢
   generalize (if (l.getD i default).st = true then s.os.set w (row ++ [(s.es.length : Int)]) else s.os) = os' at hstep ⊢
   refine aoR fun _ => ?_; refine run ?_
   refine aoR fun _ => ?_; refine run ?_
   rotate_left
   rename_i v26 _
   refine vQ (i + 1, (v26, 4), τF') hlt (by dsimp only; omega) (by dsimp only; rw [hst, hstep]; exact leP) (by dsimp only; rw [hst, hstep]; exact (vA rfl (by simp <;> rfl) (vA rfl (by simp <;> rfl) leP)))
  ·rintro ⟨τE, τF⟩ _
   dsimp only
   have hok := lN hl h12 l.length (Nat.le_refl _)
   have hln := dQ l l.length
   obtain ⟨hol, hfln⟩ := lM l l.length
   generalize onTo l l.length = s at hok hln hol hfln
   have hs16 : s.es.length ≤ 16 := by omega
   have hstr := on_straight hok hs16
   have hall := hstr.allowed
   have hA := cM s.ex hstr.rel.fit (by show s.es.length ≤ 32; omega)
   obtain ⟨_, e2, _⟩ := nG hstr.rel.check
   rw [e2, hall] at hA
   dsimp only at hA
   have z0 : FzR (s.es.map evRn) (s.es.map evTV) := FzR.of (f := evRn) (g := evTV) (fun _ => rfl) _
   have z1 := FzR.ints s.fs
   have z2 : FzR (s.os.map oRow) (s.os.map fun r => [ints r]) := FzR.of (f := oRow) (g := fun r => [ints r]) (fun _ => rfl) _
   refine wC 900 τE 13 (s.es.map evTV) (tmL [(3, .lo 3 (v3, 1) 3 0 0), (5, .int .i64 s.old)]) (stL [(3, ((v3, 1), ⟨3, [[.d (evsTV s.es), .os 901 τF 1 s.fs.length, .os 902 τO 1 s.os.length]]⟩)), (901, (τF, ⟨1, s.fs.map (cellO .i64)⟩)), (902, (τO, ⟨1, s.os.map oRow⟩))]) (by rw [← z0.eq]; rfl) (by repeat' (first | exact wU | exact xN | exact xY | exact xX | refine vD rfl (.same _) ?_ | refine vD rfl (vN (by simp)) ?_ | refine vR (by decide) rfl (FrozR.same _) ?_ | refine vR (by decide) rfl ?_ ?_ | refine vT yA ?_ | refine vT ?_ ?_ | refine vB (.same _) ?_ | refine vB (vN (by first | rfl | simp)) ?_ | refine vB (.nil _) ?_)) (by repeat' (first | exact wU | exact xN | exact xY | exact xX | refine vD rfl (.same _) ?_ | refine vD rfl (vN (by simp)) ?_ | refine vR (by decide) rfl (FrozR.same _) ?_ | refine vR (by decide) rfl ?_ ?_ | refine vT yA ?_ | refine vT ?_ ?_ | refine vB (.same _) ?_ | refine vB (vN (by first | rfl | simp)) ?_ | refine vB (.nil _) ?_)) ?_
   refine wC 901 τF 1 (s.fs.map cell) (tmL [(3, .lo 3 (v3, 1) 3 0 0), (5, .int .i64 s.old)]) (stL [(3, ((v3, 1), ⟨3, [[.d (evsTV s.es), .d (ints s.fs), .os 902 τO 1 s.os.length]]⟩)), (902, (τO, ⟨1, s.os.map oRow⟩))]) (by rw [← z1.eq]; rfl) (by repeat' (first | exact wU | exact xN | exact xY | exact xX | refine vD rfl (.same _) ?_ | refine vD rfl (vN (by simp)) ?_ | refine vR (by decide) rfl (FrozR.same _) ?_ | refine vR (by decide) rfl ?_ ?_ | refine vT yA ?_ | refine vT ?_ ?_ | refine vB (.same _) ?_ | refine vB (vN (by first | rfl | simp)) ?_ | refine vB (.nil _) ?_)) (by repeat' (first | exact wU | exact xN | exact xY | exact xX | refine vD rfl (.same _) ?_ | refine vD rfl (vN (by simp)) ?_ | refine vR (by decide) rfl (FrozR.same _) ?_ | refine vR (by decide) rfl ?_ ?_ | refine vT yA ?_ | refine vT ?_ ?_ | refine vB (.same _) ?_ | refine vB (vN (by first | rfl | simp)) ?_ | refine vB (.nil _) ?_)) ?_
   refine wC 902 τO 1 (s.os.map fun r => [ints r]) (tmL [(3, .lo 3 (v3, 1) 3 0 0), (5, .int .i64 s.old)]) (stL [(3, ((v3, 1), ⟨3, [[.d (evsTV s.es), .d (ints s.fs), .d (.sl 1 (s.os.map fun r => [ints r]))]]⟩))]) (by rw [← z2.eq]; rfl) (by repeat' (first | exact wU | exact xN | exact xY | exact xX | refine vD rfl (.same _) ?_ | refine vD rfl (vN (by simp)) ?_ | refine vR (by decide) rfl (FrozR.same _) ?_ | refine vR (by decide) rfl ?_ ?_ | refine vT yA ?_ | refine vT ?_ ?_ | refine vB (.same _) ?_ | refine vB (vN (by first | rfl | simp)) ?_ | refine vB (.nil _) ?_)) (by repeat' (first | exact wU | exact xN | exact xY | exact xX | refine vD rfl (.same _) ?_ | refine vD rfl (vN (by simp)) ?_ | refine vR (by decide) rfl (FrozR.same _) ?_ | refine vR (by decide) rfl ?_ ?_ | refine vT yA ?_ | refine vT ?_ ?_ | refine vB (.same _) ?_ | refine vB (vN (by first | rfl | simp)) ?_ | refine vB (.nil _) ?_)) ?_
   have hord : (s.os.map fun r => [ints r]) = s.ex.order.map intRow := by
    show _ = (s.os.map fun r => ((default : Sl), r)).map intRow
    rw [List.map_map]; rfl
   rw [hord]
   let S3 : List (Nat × (Stamp × Row)) := [(3, ((v3, 1), ⟨3, [[.d (evsTV s.es), .d (ints s.fs), .d (.sl 1 (s.ex.order.map intRow))]]⟩))]
   refine vZ (X := Unit) (fun _ => tmL [(3, .lo 3 (v3, 1) 3 0 0), (5, .int .i64 s.old), (12, .bool true), (13, .int .i64 0)]) (fun _ => stL S3) ?_ fun _ => ?_
   ·refine aoR fun _ => ?_
    refine run ?_
    apply uO; exact rfl; exact .fn _ _ _; exact rfl; exact hA
    refine run ?_; rotate_left
    exact aQ () leP leP
   refine vZ (X := Unit) (fun _ => tmL [(3, .lo 3 (v3, 1) 3 0 0), (5, .int .i64 s.old)]) (fun _ => stL S3) ?_ fun _ => ?_
   ·refine uK ?_
    refine aoR fun _ => ?_; refine uK ?_
    apply uZ; exact rfl; exact rfl
    refine cO ?_; refine uI ?_; refine uK ?_
    apply uZ; exact rfl; exact rfl
    refine uF ?_; refine uK ?_; refine cnd ?_ ?_
    refine yS (fun hc_ => ?_); (try simp only [nrm] at hc_)
    refine uK ?_; refine aoR fun _ => ?_
    refine uK ?_; rotate_left
    refine yT ?_; refine uF ?_
    refine xA (fun _ => ?_); (try omega)
    refine uK ?_; rotate_left
    exact uG
    refine aM ?_
    exact vV
    all_goals first | exact aQ () leP leP | (exfalso; simp_all; done)
   rcases hok.old with ho | ⟨m, b, ho, g1, g2, g3, g4, g5⟩
   ·rw [ho]
    refine uK ?_; refine aoR fun _ => ?_
    refine uK ?_
    apply uZ; exact rfl; exact rfl
    refine uR fun _ => ?_; try omega
    refine uN fun _ => ?_; try omega
    apply uZ; exact rfl; exact rfl
    exact vV
    refine uI ?_
    apply uZ; exact rfl; exact rfl
    exact vV
    refine uI ?_
    apply uZ; exact rfl; exact rfl
    exact vV
    refine uI ?_
    apply uZ; exact rfl; exact rfl
    exact vV
    refine uI ?_
    apply uZ; exact rfl; exact rfl
    exact vV
    refine uI ?_
    apply uZ; exact rfl; exact rfl
    exact vV
    refine uI ?_; refine uK ?_; refine cnd ?_ ?_; refine uI ?_; refine uK ?_; refine aoR fun _ => ?_
    apply uO; exact rfl; exact .fn _ _ _; exact rfl; exact hkn
    refine uK ?_; rotate_left
    exact vV
    all_goals first | exact vI rfl rfl | (exfalso; omega)
   rw [ho]
   by_cases hk : (s.es.getD (m : Int).toNat default).kind = 1
   rotate_left
   ·refine uK ?_
    refine aoR fun _ => ?_; refine uK ?_
    apply uZ; exact rfl; exact rfl
    refine uR fun _ => ?_; try omega
    refine uK ?_
    apply uZ; exact rfl; exact rfl
    refine uF ?_; refine uK ?_
    apply uZ; exact rfl; exact rfl
    refine uF ?_; refine uK ?_
    apply uZ; exact rfl; exact rfl
    refine uF ?_; refine uK ?_
    apply uZ; exact rfl; exact rfl
    refine uF ?_; refine uK ?_
    apply uZ; exact rfl; exact rfl
    refine uF ?_; refine uK ?_
    apply uZ; exact rfl; exact rfl
    refine uF ?_; refine uK ?_; refine cnd ?_ ?_
    refine yS (fun hc_ => ?_); (try simp only [nrm] at hc_)
    refine uK ?_; refine aoR fun _ => ?_
    apply uO; exact rfl; exact .fn _ _ _; exact rfl; exact hkn
    refine uK ?_; rotate_left
    refine yT ?_; refine uF ?_
    refine xA (fun _ => ?_); (try omega)
    iterate 6 exact uG
    refine uN fun _ => ?_; try omega
    all_goals first | exact vI rfl rfl | (exfalso; omega)
   have hk' : (s.es.getD m default).kind = 1 := hk
   refine vZ (X := Unit) (fun _ => tmL [(3, .lo 3 (v3, 1) 3 0 0), (5, .int .i64 m)]) (fun _ => stL S3) ?_ fun _ => ?_
   ·refine uK ?_
    refine aoR fun _ => ?_; refine uK ?_
    apply uZ; exact rfl; exact rfl
    refine uR fun _ => ?_; try omega
    refine uK ?_
    apply uZ; exact rfl; exact rfl
    refine uF ?_; refine uK ?_
    apply uZ; exact rfl; exact rfl
    refine uF ?_; refine uK ?_
    apply uZ; exact rfl; exact rfl
    refine uF ?_; refine uK ?_
    apply uZ; exact rfl; exact rfl
    refine uF ?_; refine uK ?_
    apply uZ; exact rfl; exact rfl
    refine uF ?_; refine uK ?_
    apply uZ; exact rfl; exact rfl
    refine uF ?_; refine uK ?_; refine cnd ?_ ?_
    refine yS (fun hc_ => ?_); (try simp only [nrm] at hc_)
    refine uK ?_; refine aoR fun _ => ?_
    rotate_left; refine yT ?_; refine uF ?_
    refine xA (fun _ => ?_); (try omega)
    refine uK ?_; rotate_left
    iterate 6 exact uG
    refine uN fun _ => ?_; try omega
    all_goals first | exact aQ () leP leP | (exfalso; rcases hc_ with h | h; cases h; exact h hk)
   refine vZ (X := Stamp) (fun τ => tmL [(3, .lo 3 (v3, 1) 3 0 0), (5, .int .i64 m), (14, .lo 14 τ 3 0 0)]) (fun τ => stL ((14, (τ, ⟨3, [[.d (evsTV s.es), .d (ints s.fs), .d (.sl 1 (s.ex.order.map intRow))]]⟩)) :: S3)) ?_ fun τ => ?_
   ·refine aoR fun _ => ?_
    refine run ?_; rotate_left
    rename_i v32
    exact aQ (v32, 1) leP leP
   refine vZ (X := Stamp) (fun _ => tmL [(3, .lo 3 (v3, 1) 3 0 0), (5, .int .i64 m), (14, .lo 14 τ 3 0 0)]) (fun τE => stL ((14, (τ, ⟨3, [[.os 154 τE 13 s.es.length, .d (ints s.fs), .d (.sl 1 (s.ex.order.map intRow))]]⟩)) :: (154, (τE, ⟨13, s.es.map evRn⟩)) :: S3)) ?_ fun τE => ?_
   ·refine aoR fun _ => ?_
    refine run ?_; rotate_left
    rename_i v33
    exact aQ (v33, 2) leP (vA rfl (by simp <;> rfl) (vA rfl z0.eq.symm leP))
   refine vZ (X := Stamp) (fun _ => tmL [(3, .lo 3 (v3, 1) 3 0 0), (5, .int .i64 m), (14, .lo 14 τ 3 0 0)]) (fun τF => stL ((14, (τ, ⟨3, [[.os 154 τE 13 s.es.length, .os 158 τF 1 s.fs.length, .d (.sl 1 (s.ex.order.map intRow))]]⟩)) :: (154, (τE, ⟨13, s.es.map evRn⟩)) :: (158, (τF, ⟨1, s.fs.map (cellO .i64)⟩)) :: S3)) ?_ fun τF => ?_
   ·refine aoR fun _ => ?_
    refine run ?_; rotate_left
    rename_i v34
    exact aQ (v34, 2) leP (vA rfl (by simp <;> rfl) (vK rfl (vA rfl z1.eq.symm leP)))
   have hmf : m < s.fs.length := by omega
   obtain ⟨w1, w2⟩ := lK hok (by omega) g3
   refine vZ (X := Unit) (fun _ => tmL [(3, .lo 3 (v3, 1) 3 0 0), (5, .int .i64 m), (14, .lo 14 τ 3 0 0)]) (fun _ => stL ((14, (τ, ⟨3, [[.os 154 τE 13 s.es.length, .os 158 τF 1 s.fs.length, .d (.sl 1 (s.ex.order.map intRow))]]⟩)) :: (154, (τE, ⟨13, (s.es.set m (onE s m)).map evRn⟩)) :: (158, (τF, ⟨1, s.fs.map (cellO .i64)⟩)) :: S3)) ?_ fun _ => ?_
   ·refine aoR fun _ => ?_
    refine run ?_; rotate_left
    exact aQ () leP (vK rfl (vA rfl (by rw [List.map_set]; rfl) leP))
   have hq : IntKind.u32.wrap ((s.es.getD (m : Int).toNat default).addr.tdiv 4) = (onB s m : Int) := by
    show IntKind.u32.wrap ((s.es.getD m default).addr.tdiv 4) = _
    rw [w2, Int.tdiv_eq_ediv_of_nonneg (by omega), show 4 * (onB s m : Int) / 4 = (onB s m : Int) by omega]
    generalize onB s m = q at w1
    unfold IntKind.wrap
    simp [IntKind.bits, IntKind.signed]
    omega
   refine vZ (X := Unit) (fun _ => tmL [(3, .lo 3 (v3, 1) 3 0 0), (14, .lo 14 τ 3 0 0)]) (fun _ => stL ((14, (τ, ⟨3, [[.os 154 τE 13 s.es.length, .os 158 τF 1 s.fs.length, .d (.sl 1 (s.ex.order.map intRow))]]⟩)) :: (154, (τE, ⟨13, (s.es.set m (onE s m)).map evRn⟩)) :: (158, (τF, ⟨1, (s.fs.set m (onB s m : Int)).map (cellO .i64)⟩)) :: S3)) ?_ fun _ => ?_
   ·refine vF (E := E) ?_ (fun _ => ?_); exact rfl
    refine run ?_; rotate_left
    exact aQ () leP (vK rfl (vK rfl (vA rfl (by rw [hq]; exact (List.map_set (f := cellO .i64)).symm) leP)))
   have y0 : FzR ((s.es.set m (onE s m)).map evRn) ((s.es.set m (onE s m)).map evTV) := FzR.of (f := evRn) (g := evTV) (fun _ => rfl) _
   have y1 := FzR.ints (s.fs.set m (onB s m : Int))
   refine wC 154 τE 13 ((s.es.set m (onE s m)).map evTV) (tmL [(14, .lo 14 τ 3 0 0)]) (stL [(14, (τ, ⟨3, [[.d (evsTV (s.es.set m (onE s m))), .os 158 τF 1 s.fs.length, .d (.sl 1 (s.ex.order.map intRow))]]⟩)), (158, (τF, ⟨1, (s.fs.set m (onB s m : Int)).map (cellO .i64)⟩))]) (by rw [← y0.eq]; rfl) (by repeat' (first | exact wU | exact xN | exact xY | exact xX | refine vD rfl (.same _) ?_ | refine vD rfl (vN (by simp)) ?_ | refine vR (by decide) rfl (FrozR.same _) ?_ | refine vR (by decide) rfl ?_ ?_ | refine vT yA ?_ | refine vT ?_ ?_ | refine vB (.same _) ?_ | refine vB (vN (by first | rfl | simp)) ?_ | refine vB (.nil _) ?_)) (vR (by decide) rfl (vT (vB (vN (by rw [List.length_map, List.length_set])) (vB (.same _) (vB (.same _) xY))) xX) (vR (by decide) rfl (.same _) xN)) ?_
   refine wC 158 τF 1 ((s.fs.set m (onB s m : Int)).map cell) (tmL [(14, .lo 14 τ 3 0 0)]) (stL [(14, (τ, ⟨3, [[.d (evsTV (onY s m).evs), .d (ints (onY s m).from_), .d (rowsTV (onY s m).order)]]⟩))]) (by rw [← y1.eq]; rfl) (by repeat' (first | exact wU | exact xN | exact xY | exact xX | refine vD rfl (.same _) ?_ | refine vD rfl (vN (by simp)) ?_ | refine vR (by decide) rfl (FrozR.same _) ?_ | refine vR (by decide) rfl ?_ ?_ | refine vT yA ?_ | refine vT ?_ ?_ | refine vB (.same _) ?_ | refine vB (vN (by first | rfl | simp)) ?_ | refine vB (.nil _) ?_)) (vR (by decide) rfl (vT (vB (.same _) (vB (vN (by rw [List.length_map, List.length_set])) (vB (.same _) xY))) xX) xN) ?_
   have hyr := y_rel hok (by omega) g3 hk' hs16
   have hyn := y_not hok (by omega) g3 hk' hs16 g1 g2 g4 g5
   have hB := cM (onY s m) hyr.fit (by show (s.es.set m _).length ≤ 32; rw [List.length_set]; omega)
   obtain ⟨_, e3, _⟩ := nG hyr.check
   rw [e3, hyn] at hB
   dsimp only at hB
   refine uK ?_; refine aoR fun _ => ?_
   refine uK ?_
   apply uO; exact rfl; exact .fn _ _ _; exact rfl; exact hB
   refine uK ?_; refine aoR fun _ => ?_
   refine uK ?_
   apply uE; exact rfl; exact rfl
   refine aM ?_; refine uF ?_; refine uK ?_
   apply uE; exact rfl; exact rfl
   refine uI ?_; refine uK ?_
   apply uE; exact rfl; exact rfl
   refine yS (fun hc_ => ?_); (try simp only [nrm] at hc_)
   apply uO; exact rfl; exact .fn _ _ _; exact rfl; exact hkn
   refine uK ?_; rotate_left
   refine yT ?_
   iterate 2 exact vV
   refine cO ?_
   exact uG
   all_goals first | exact vI rfl rfl | (exfalso; omega)
open Go.RowKit Go.ChangeShapes Go.WideShapes Go.Deep
theorem cells_act : Tryz.prog.cellsOf 44 = 3 := by kernel_rfl
theorem bytes_act : 1 ≤ Tryz.prog.bytesOf 44 := of_decide_eq_true (by kernel_rfl)
theorem cells_u8' : Tryz.prog.cellsOf 5 = 1 := by kernel_rfl
theorem list3 {α : Type} {l : List α} (h : l.length = 3) : ∃ a b c, l = [a, b, c] := by
 match l, h with
 | [a, b, c], _ => exact ⟨a, b, c, rfl⟩
theorem wf_u8n {z : Int} (h : (Lit.int .u8 z).wf = true) : 0 ≤ z ∧ z < 256 := by
 simp only [Lit.wf, Bool.and_eq_true, decide_eq_true_eq] at h
 have e1 : IntKind.u8.min = 0 := by decide
 have e2 : IntKind.u8.max = 255 := by decide
 rw [e1, e2] at h
 exact ⟨h.1, by omega⟩
section
variable {H : Type} {enc : TypeId × Value → H} {W : World} {sp : Nat → Bool} {held : Bool}
theorem act_rep {fuel : Nat} {cs : List Value} {x : DataW H × List MemPlace} (hlen : cs.length = 3) (h : DataW.trod enc Tryz.prog W 0 sp held fuel 44 cs = some x) :
  ∃ e : OnA, (∀ (j : Nat) (t : TV), (actTV e)[j]? = some t → ∃ v, cs[j]? = some v ∧ Rep (allM W) t v) ∧ e.ok := by
 obtain ⟨xs, n, _, rfl, _, hxl, hf⟩ := DataW.trod_struct Tryz.underlying44 h
 obtain ⟨c0, c1, c2, rfl⟩ := list3 hlen
 have hxl : xs.length = 3 := hxl
 obtain ⟨x0, g0⟩ := oM hxl 0 (by decide)
 have t0 := hf 0 ⟨"At", 5, 0, false, "", "", 0⟩ rfl
 rw [g0] at t0
 rw [cells_u8', qK (i := 0) rfl] at t0
 obtain ⟨x1, g1⟩ := oM hxl 1 (by decide)
 have t1 := hf 1 ⟨"Stores", 4, 1, false, "", "", 1⟩ rfl
 rw [g1] at t1
 rw [cells_bool, qK (i := 1) rfl] at t1
 obtain ⟨x2, g2⟩ := oM hxl 2 (by decide)
 have t2 := hf 2 ⟨"Value", 38, 2, false, "", "", 4⟩ rfl
 rw [g2] at t2
 rw [cells_u32, qK (i := 2) rfl] at t2
 obtain ⟨z0, e0, _, w0⟩ := DataW.trod_int Tryz.underlying5 t0
 obtain ⟨z1, e1, _⟩ := DataW.trod_bool Tryz.underlying4 t1
 obtain ⟨z2, e2, _, w2⟩ := DataW.trod_int Tryz.underlying38 t2
 simp only [List.cons.injEq, and_true] at e0 e1 e2
 refine ⟨⟨z0, z1, z2⟩, ?_, wf_u8n w0, wf_u32 w2⟩
 rw [e0, e1, e2]
 intro j t ht
 match j, ht with
 | 0, ht => cases ht; exact ⟨_, rfl, iB rfl⟩
 | 1, ht => cases ht; exact ⟨_, rfl, iB rfl⟩
 | 2, ht => cases ht; exact ⟨_, rfl, iB rfl⟩
 | n + 3, ht => cases ht
theorem acts_rep {fuel : Nat} {cs : List Value} {x : DataW H × List MemPlace} (h : DataW.trod enc Tryz.prog W 0 sp held fuel 42 cs = some x) (hw : ∀ n ∈ x.1.weights Tryz.prog 42, n ≤ reachBytes) :
  ∃ (v : Value) (l : List OnA), cs = [v] ∧ Rep (allM W) (actsTV l) v ∧ l.length ≤ 1152921504606846976 ∧ ∀ e ∈ l, e.ok := by
 rcases open_slice Tryz.underlying42 h with ⟨rfl, rfl⟩ | ⟨a, len, cap, m, n, D, Pl, rfl, hb, hl, hm, hmm, rfl, hx⟩
 ·exact ⟨_, [], rfl, by unfold actsTV; rw [Rep]; exact ⟨none, 0, rfl, Nat.le_refl _, Or.inl rfl⟩, by simp, by simp⟩
 ·have hle : len ≤ m := by rw [hmm]; split <;> omega
  obtain ⟨hwt, hwe⟩ := w_slice Tryz.underlying42 hw
  rw [cells_act] at hx
  obtain ⟨E, hE⟩ := choose_lt (α := OnA) (n := len) (p := fun i e => e.ok ∧ ∀ (j : Nat) (t : TV), (actTV e)[j]? = some t → ∃ v, W.cell? (a.add (i * 3 + j)) = some v ∧ Rep (allM W) t v) (fun i hi => by
   obtain ⟨cs', h1, h2⟩ := hx i (by omega)
   obtain ⟨_, h3, h4⟩ := World.cells?_some h1
   obtain ⟨e, he, hok⟩ := act_rep h3 h2
   refine ⟨e, hok, fun j t hj => ?_⟩
   have hj3 : j < 3 := (List.getElem?_eq_some_iff.1 hj).1
   obtain ⟨v, h5, h6⟩ := he j t hj
   have := h4 j hj3
   rw [add_add, h5] at this
   exact ⟨v, this, h6⟩)
  have hL : ((List.range len).map E).length = len := by simp
  refine ⟨_, (List.range len).map E, rfl, ?_, ?_, ?_⟩
  ·unfold actsTV
   rw [Rep]
   refine ⟨some a, cap, by simp, by simpa using hl, ?_⟩
   by_cases h0 : len = 0
   ·left; subst h0; simp
   ·right
    obtain ⟨_, g0⟩ := hE 0 (by omega)
    obtain ⟨v0, g0, _⟩ := g0 0 _ rfl
    obtain ⟨hs, _⟩ := cE g0
    have ea := addr_eq (a := a) hs
    refine ⟨a.block, a.off, by rw [← ea], RepR.of_get fun i r hi => ?_⟩
    rw [List.getElem?_map] at hi
    obtain ⟨e, he, rfl⟩ := Option.map_eq_some_iff.1 hi
    obtain ⟨hlt, rfl⟩ := List.getElem?_eq_some_iff.1 he
    rw [hL] at hlt
    simp only [List.getElem_map, List.getElem_range]
    refine ⟨rfl, RepC.of_get fun o t ht => ?_⟩
    obtain ⟨v, g1, g2⟩ := (hE i hlt).2 o t ht
    rw [ea, add_plain] at g1
    exact ⟨v, by rw [Nat.add_assoc]; exact g1, g2⟩
  ·rw [hL]
   simp only [List.length_map, List.length_range] at hwt
   have h2 : len ≤ (len + (m - len)) * Tryz.prog.bytesOf 44 := by
    refine Nat.le_trans ?_ (Nat.le_mul_of_pos_right _ (by have := bytes_act; omega)); omega
   unfold reachBytes at hwt
   omega
  ·intro e he
   obtain ⟨i, hi, rfl⟩ := List.mem_map.1 he
   exact (hE i (List.mem_range.1 hi)).1
end
theorem lawOne_q (l : List OnA) (h1 : l.length ≤ 1152921504606846976) (h2 : ∀ c ∈ l, c.ok) : Pure E.P 6 [.d (actsTV l)] (.bool true) := lawOne_p l h2 h1
end Go.Proofs.YtnkocjkkefnelaaGreat
