/- Parts. -/
import Derived.Test.YtjogffchdejabaaGreatDoorPp3
import Derived.Test.YtjogffchdejabaaGreatDoorPp4
import Derived.Test.YtjogffchdejabaaGreatDoorPp8
import Derived.Test.YtjogffchdejabaaGreatDoorPp10
import Derived.Test.YtjogffchdejabaaGreatDoorPp12
import Derived.Test.YtjogffchdejabaaGreatDoorPp13
set_option linter.unusedVariables false
set_option linter.unusedSimpArgs false
set_option maxHeartbeats 4000000
set_option maxRecDepth 100000
namespace Go.Proofs.YtjogffchdejabaaGreatDoor
section
open Go.RowKit Go.Lib
theorem mY {f : Nat} {t : Ts} {n : Int} : parseGo (f + 1) [] t n = if checkT t = 0 then (t, 0, 0) else ([], 0, 190) := by rw [parseGo, if_pos rfl]
theorem iK {text : Bt} {t : Ts} {n : Int} (h0 : text ≠ []) (h : (cutC 10 text).2.2 = true ∧ (cutC 10 text).1 = wHart ∧ t.length < 4) : parseGo (text.length + 1) text t n = parseGo ((cutC 10 text).2.1.length + 1) (cutC 10 text).2.1 (t ++ [[]]) (n + 1) := by
 have hl := fU 10 h0
 rw [parseGo, if_neg h0, if_pos h]
 exact bR _ _ _ _ _ (by omega) (by omega)
theorem pg_none {text : Bt} {t : Ts} {n : Int} (h0 : text ≠ []) (h : ¬ ((cutC 10 text).2.2 = true ∧ (cutC 10 text).1 = wHart ∧ t.length < 4)) (hs : stepB (cutC 10 text).1 = none) : parseGo (text.length + 1) text t n = ([], n, 190) := by
 rw [parseGo, if_neg h0, if_neg h, hs]
theorem pg_bad {text : Bt} {t : Ts} {n : Int} {s : Stp} (h0 : text ≠ []) (h : ¬ ((cutC 10 text).2.2 = true ∧ (cutC 10 text).1 = wHart ∧ t.length < 4)) (hs : stepB (cutC 10 text).1 = some s) (hb : (cutC 10 text).2.2 = false ∨ t.length = 0 ∨ (t.getD (t.length - 1) []).length = 16) : parseGo (text.length + 1) text t n = ([], n, 190) := by
 rw [parseGo, if_neg h0, if_neg h, hs]
 exact if_pos hb
theorem pg_step {text : Bt} {t : Ts} {n : Int} {s : Stp} (h0 : text ≠ []) (h : ¬ ((cutC 10 text).2.2 = true ∧ (cutC 10 text).1 = wHart ∧ t.length < 4)) (hs : stepB (cutC 10 text).1 = some s) (hb : ¬ ((cutC 10 text).2.2 = false ∨ t.length = 0 ∨ (t.getD (t.length - 1) []).length = 16)) : parseGo (text.length + 1) text t n = parseGo ((cutC 10 text).2.1.length + 1) (cutC 10 text).2.1 (addS t s) (n + 1) := by
 have hl := fU 10 h0
 rw [parseGo, if_neg h0, if_neg h, hs]
 dsimp only
 rw [if_neg hb]
 exact bR _ _ _ _ _ (by omega) (by omega)
theorem mZ {text : Bt} {t : Ts} {n : Int} (h0 : text ≠ []) (h : ¬ ((cutC 10 text).2.2 = true ∧ (cutC 10 text).1 = wHart ∧ t.length < 4)) (hb : (cutC 10 text).2.2 = false ∨ (stepR (cutC 10 text).1).2 = false ∨ t.length = 0 ∨ (t.getD (t.length - 1) []).length = 16) : parseGo (text.length + 1) text t n = ([], n, 190) := by
 cases hs : stepB (cutC 10 text).1 with
 | none => exact pg_none h0 h hs
 | some s =>
  refine pg_bad h0 h hs ?_
  rcases hb with hb | hb | hb
  ·exact .inl hb
  ·rw [stepR, hs] at hb; cases hb
  ·exact .inr hb
theorem uAV {text : Bt} {t : Ts} {n : Int} (h0 : text ≠ []) (h : ¬ ((cutC 10 text).2.2 = true ∧ (cutC 10 text).1 = wHart ∧ t.length < 4)) (h1 : (cutC 10 text).2.2 = true) (h2 : (stepR (cutC 10 text).1).2 = true) (h3 : t.length ≠ 0) (h4 : (t.getD (t.length - 1) []).length ≠ 16) : parseGo (text.length + 1) text t n = parseGo ((cutC 10 text).2.1.length + 1) (cutC 10 text).2.1 (addS t (stepR (cutC 10 text).1).1) (n + 1) := by
 cases hs : stepB (cutC 10 text).1 with
 | none => rw [stepR, hs] at h2; cases h2
 | some s =>
  have he : (stepR (cutC 10 text).1).1 = s := by rw [stepR, hs]
  rw [he]
  refine pg_step h0 h hs ?_
  rintro (e | e | e)
  ·rw [h1] at e; cases e
  ·exact h3 e
  ·exact h4 e
theorem kK (c : UInt8) : ∀ l : Bt, (cutC c l).1.length ≤ l.length
 | [] => by simp [cutC]
 | x :: l => by
  have := kK c l
  rw [cutC]
  split
  ·simp
  ·simp only [List.length_cons]; omega
inductive PX where
 | none (text : Bt) (n : Nat) (τT : Stamp)
 | some (text : Bt) (n : Nat) (τT : Stamp) (a : Ts) (l : List Stp) (τL : Stamp)
def PX.text : PX → Bt
 | .none x _ _ => x
 | .some x _ _ _ _ _ => x
def PX.n : PX → Nat
 | .none _ n _ => n
 | .some _ n _ _ _ _ => n
def PX.ts : PX → Ts
 | .none _ _ _ => []
 | .some _ _ _ a l _ => a ++ [l]
def thO (l : List Stp) : List OV := [.d (stsTV l)]
def PX.rows (τ5 : Stamp) : PX → Rows
 | .none _ _ τT => [(5, (τ5, ⟨1, [[.os 900 τT 1 0]]⟩)), (900, (τT, ⟨1, []⟩))]
 | .some _ _ τT a l τL => [(5, (τ5, ⟨1, [[.os 900 τT 1 (a.length + 1)]]⟩)), (900, (τT, ⟨1, a.map thO ++ [[.os 901 τL 10 l.length]]⟩)), (901, (τL, ⟨10, l.map stO⟩))]
def PX.ok (text0 : Bt) (x : PX) : Prop := parseT text0 = parseGo (x.text.length + 1) x.text x.ts x.n ∧ x.text.length ≤ text0.length ∧ x.n + x.text.length ≤ text0.length + 1 ∧ x.ts.length ≤ 4 ∧ ∀ l ∈ x.ts, l.length ≤ 16
theorem iU {a : Ts} {l : List Stp} {τL : Stamp} : FrozR 901 τL 10 (l.map stTV) ⟨1, a.map thO ++ [[.os 901 τL 10 l.length]]⟩ ⟨1, (a ++ [l]).map thO⟩ := by
 refine ⟨rfl, by simp, fun i row' h => ?_⟩
 have h : ((a ++ [l]).map thO)[i]? = some row' := h
 rw [List.map_append] at h
 show ∃ row, (a.map thO ++ [[OV.os 901 τL 10 l.length]])[i]? = some row ∧ _
 by_cases hi : i < (a.map thO).length
 ·rw [List.getElem?_append_left hi] at h ⊢
  exact ⟨row', h, rfl, fun o y ho => ⟨y, ho, .same y⟩⟩
 ·rw [List.getElem?_append_right (by omega)] at h ⊢
  match i - (a.map thO).length, h with
  | 0, h =>
   cases h
   refine ⟨_, rfl, rfl, fun o y ho => ?_⟩
   match o, ho with
   | 0, ho => cases ho; exact ⟨_, rfl, vL (by simp)⟩
  | j + 1, h => cases h
theorem jX {a : Ts} {x : List OV} : (a.map thO ++ [x])[a.length]? = some x := by rw [List.getElem?_append_right (by simp)]; simp
theorem jW {a : Ts} {x y : List OV} : (a.map thO ++ [x]).set a.length y = a.map thO ++ [y] := by
 rw [List.set_append_right _ _ (by simp)]; simp
theorem fK {a : Ts} {l : List Stp} : ((a ++ [l]).getD ((a ++ [l]).length - 1) []).length = l.length := by simp [List.getD_eq_getElem?_getD]
theorem wR {a : Ts} {x : List OV} {i : Int} (h : i = a.length) : (a.map thO ++ [x])[i.toNat]? = some x := by
 rw [h]; exact jX
theorem lZ {a : Ts} {l : List Stp} {s : Stp} {τ τ' : Stamp} {i : Int} (h : i = a.length) : (a.map thO ++ [[OV.os 901 τ 10 l.length]]).set i.toNat [OV.os 901 τ' 10 ((l.map stO).length + 1)] = a.map thO ++ [[OV.os 901 τ' 10 (l ++ [s]).length]] := by
 rw [h, List.length_append, List.length_map]
 exact jW
theorem iH (l : List Stp) : (l.map stTV).map (fun r => r.map OV.d) = l.map stO := by rw [List.map_map]; rfl
theorem rE (a : Ts) : (a.map fun l => [stsTV l]).map (fun r => r.map OV.d) = a.map thO := by rw [List.map_map]; rfl
theorem yT {tm : Tm} {σ : Store} {τ2 : Stamp} {y : OV} {a b : Int} {X : OV} (h2 : tm 2 = some (.lo 2 τ2 1 0 0)) (h3 : tm 3 = some (.int .i64 a)) (h4 : tm 4 = some (.int .i64 b)) (s2 : σ 2 = some (τ2, ⟨1, [[y]]⟩)) (hr : X = .tu [.ag [y], .int .i64 a, .int .i64 b]) :
  DoneN E [.cell 2 27, .tmp 3, .tmp 4] (fun r' _ => r' = X) .ret tm σ :=
 ⟨_, ⟨_, _, rfl, ⟨_, _, _, _, _, rfl, rfl, rfl, h2, s2, rfl⟩, _, _, rfl, h3, _, _, rfl, h4, rfl⟩, hr.symm⟩
set_option maxHeartbeats 4000000 in
theorem rP (text : Bt) (hl : text.length ≤ 65535) : Pure E.P 14 [.bs text] (.tu [testOV (parseT text).1, .int .i64 (parseT text).2.1, .int .i64 (parseT text).2.2]) := by
  have n16 : NilS 16 := ⟨trivial⟩
  have n70 : NilS 70 := ⟨trivial⟩
  have n89 : NilS 89 := ⟨trivial⟩
  refine FnW.toR ?_
  refine xL (vs := [.cell 2 27, .tmp 3, .tmp 4]) Tryz.func14 (by decide) rfl Tryz.ntmps14 (Nat.le_of_ble_eq_true rfl) rfl ?_
  refine uR (X := Stamp) (fun τ2 => tmL [(0, .bs text), (2, .lo 2 τ2 1 0 0), (3, .int .i64 0), (4, .int .i64 0)]) (fun τ2 => stL [(2, (τ2, ⟨1, [[.d (.c (.slice none 0 0))]]⟩))]) ?_ fun τ2 => ?_
  · refine aoR fun _ => ?_
    refine rZ ?_; rotate_left
    rename_i u
    exact wA (u, 0) leP leP
  refine uR (X := Unit) (fun _ => tmL [(0, .bs text), (2, .lo 2 τ2 1 0 0)]) (fun _ => stL [(2, (τ2, ⟨1, [[.d (.c (.slice none 0 0))]]⟩))]) ?_ fun _ => ?_
  · refine rZ ?_
    refine aoR fun _ => ?_; refine rZ ?_
    apply vS; exact rfl; exact rfl; exact rfl
    refine rZ ?_; refine cnd ?_ ?_
    refine uF fun _ => ?_; try omega
    refine uG fun _ => ?_; try omega
    refine rZ ?_; rotate_left
    all_goals first | (exfalso; omega) | exact wA () leP leP
  refine uR (X := Stamp) (fun τ5 => tmL [(0, .bs text), (2, .lo 2 τ2 1 0 0), (5, .lo 5 τ5 1 0 0)]) (fun τ5 => stL [(2, (τ2, ⟨1, [[.d (.c (.slice none 0 0))]]⟩)), (5, (τ5, ⟨1, [[.d (.c (.slice none 0 0))]]⟩))]) ?_ fun τ5 => ?_
  · refine aoR fun _ => ?_
    refine rZ ?_; rotate_left
    rename_i u
    exact wA (u, 0) leP leP
  refine bI (kx := 5) (i := 0) (o := 0) 900 1 rfl rfl rfl (by decide) fun τT => ?_
  refine uD (uD (aoR fun _ => ?_))
  refine rZ ?_ 2; rotate_left
  refine uA (wH ?_)
  refine vB (X := PX) (fun x => tmL [(0, .bs x.text), (2, .lo 2 τ2 1 0 0), (5, .lo 5 τ5 1 0 0), (6, .int .i64 x.n)]) (fun x => stL ((2, (τ2, ⟨1, [[.d (.c (.slice none 0 0))]]⟩)) :: x.rows τ5)) (PX.ok text) (fun x => x.text.length) (.none text 1 τT) ⟨by show parseT text = _; unfold parseT; rw [if_neg (by omega)]; rfl, Nat.le_refl _, by show 1 + text.length ≤ _; omega, Nat.zero_le _, fun l h => by cases h⟩ leP leP ?_
  rintro x ⟨hP, hx1, hx2, hx3, hx4⟩
  cases x with
  | none xt n τT =>
    have hP : parseT text = parseGo (xt.length + 1) xt [] n := hP
    by_cases he : xt = []
    · subst he
      refine rZ ?_ 2; refine aoR fun _ => ?_
      refine rZ ?_ 2
      apply cO; exact rfl; exact rfl
      refine rZ ?_ 2; rotate_left
      refine uA ?_; refine cnd ?_ ?_; refine zU ?_
      refine vY (fun _ => ?_)
      refine rZ ?_ 2; rotate_left
      refine yS ?_
      refine vV (fun _ => ?_)
      refine rZ ?_ 2; rotate_left
      · rename_i hx
        exact absurd hx (show ¬ decide (([] : Bt) = []) = false by decide)
      refine uA ?_
      refine wM 900 τT 1 [] (tmL [(2, .lo 2 τ2 1 0 0), (5, .lo 5 τ5 1 0 0)]) (stL [(2, (τ2, ⟨1, [[.d (.c (.slice none 0 0))]]⟩)), (5, (τ5, ⟨1, [[.d (.sl 1 [])]]⟩))]) rfl (by repeat' (first | exact xV | exact xB | exact xR | exact xQ | refine vK rfl (.same _) ?_ | refine vK rfl (vL (by simp)) ?_ | refine uX (by decide) rfl (FrozR.same _) ?_ | refine uX (by decide) rfl ?_ ?_ | refine vG xC ?_ | refine vG ?_ ?_ | refine uT (.same _) ?_ | refine uT (vL (by first | rfl | simp)) ?_ | refine uT (.nil _) ?_)) (by repeat' (first | exact xV | exact xB | exact xR | exact xQ | refine vK rfl (.same _) ?_ | refine vK rfl (vL (by simp)) ?_ | refine uX (by decide) rfl (FrozR.same _) ?_ | refine uX (by decide) rfl ?_ ?_ | refine vG xC ?_ | refine vG ?_ ?_ | refine uT (.same _) ?_ | refine uT (vL (by first | rfl | simp)) ?_ | refine uT (.nil _) ?_)) ?_
      have hc := pU ([])
      have hE : parseT text = if checkT ([]) = 0 then ([], 0, 0) else ([], 0, 190) := by rw [hP]; exact mY
      by_cases h0 : checkT ([]) = 0
      · rw [if_pos h0] at hE
        rw [h0] at hc
        refine rZ ?_; refine aoR fun _ => ?_
        refine rZ ?_
        apply uE; exact rfl; exact .fn _ _ _; exact rfl; exact hc
        refine rZ ?_; refine cnd ?_ ?_
        refine zT (fun _ => ?_); (try omega)
        refine aG (fun _ => ?_); (try omega)
        refine rZ ?_; refine aoR fun _ => ?_
        refine rZ ?_; rotate_left
        all_goals first | exact yT rfl rfl rfl rfl (by rw [hE]; rfl) | skip
      · rw [if_neg h0] at hE
        refine rZ ?_; refine aoR fun _ => ?_
        refine rZ ?_
        apply uE; exact rfl; exact .fn _ _ _; exact rfl; exact hc
        refine rZ ?_; refine cnd ?_ ?_
        refine zT (fun _ => ?_); (try omega)
        refine rZ ?_; refine aoR fun _ => ?_
        refine rZ ?_; rotate_left
        refine aG (fun _ => ?_); (try omega)
        all_goals first | (exfalso; exact h0 (by assumption)) | exact yT rfl rfl rfl rfl (by rw [hE]; rfl)
    · have c1 := uAY xt 10 (by have : xt.length ≤ text.length := hx1; omega)
      have hlt := fU 10 he
      by_cases hh : (cutC 10 xt).2.2 = true ∧ (cutC 10 xt).1 = wHart
      · have k43 : KeyOf 43 900 := ⟨trivial⟩
        have hq := iK (t := []) (n := (n : Int)) he ⟨hh.1, hh.2, by decide⟩
        obtain ⟨⟨w, rest, whole⟩, hc⟩ : ∃ c, c = cutC 10 xt := ⟨_, rfl⟩
        rw [← hc] at c1 hh hq hlt
        obtain ⟨rfl, rfl⟩ := hh
        refine rZ ?_ 2; refine aoR fun _ => ?_
        refine rZ ?_ 2
        apply cO; exact rfl; exact rfl
        refine rZ ?_ 2; rotate_left
        refine uA (uK rfl (fun _ => vM (uA ?_)) (fun hx => absurd (of_decide_eq_true ((Bool.not_eq_false' _).mp hx)) he))
        refine rZ ?_ 2; refine aoR fun _ => ?_
        refine rZ ?_ 2
        apply uE; exact rfl; exact .fn _ _ _; exact rfl; exact c1
        refine rZ ?_ 2; rotate_left
        refine uA ?_; refine rZ ?_ 2; refine aoR fun _ => ?_
        refine rZ ?_ 2; rotate_left
        refine uA ?_; refine rZ ?_ 2; refine aoR fun _ => ?_
        refine rZ ?_ 2; rotate_left
        refine uA ?_; refine rZ ?_ 2; refine aoR fun _ => ?_
        refine rZ ?_ 2
        apply spT; exact rfl
        intro hc_
        have hp_ := hc_; try simp only [nrm] at hp_
        apply vC; exact evm; exact evm
        refine rZ ?_ 2; rotate_left
        refine uA (uK rfl (fun _ => ?_) (fun hx => absurd hx (show ¬ (true && decide (wHart = [104, 97, 114, 116]) && decide (((0 : Nat) : Int) < 4)) = false by decide)))
        refine rZ ?_ 2; refine aoR fun _ => ?_
        refine rZ ?_ 2; rotate_left
        refine uA (cJ ?_)
        show awp _ _ (.region 6 _ _) _ _ _
        refine bI (kx := 900) (i := 0) (o := 0) 901 10 rfl rfl rfl (by decide) fun τL => ?_
        rename_i v11
        refine aoR fun _ => ?_; refine rZ ?_ 2
        rotate_left
        have hlt' : rest.length < xt.length := hlt
        have hx2' : n + xt.length ≤ text.length + 1 := hx2
        have hx1' : xt.length ≤ text.length := hx1
        refine uA (uU (.some rest (n + 1) (v11, 3) [] [] τL) ⟨hP.trans hq, by show rest.length ≤ _; omega, by show n + 1 + rest.length ≤ _; omega, (by decide : 1 ≤ 4), fun l h => ?_⟩ hlt' (uL rfl (uL rfl (uL rfl (uO rfl (by show (n : Int) + 1 = ((n + 1 : Nat) : Int); omega) (vW _))))) leP)
        rcases List.mem_singleton.1 h with rfl
        exact Nat.zero_le _
      · have hE : parseT text = ([], (n : Int), 190) := hP.trans (mZ he (fun h => hh ⟨h.1, h.2.1⟩) (.inr (.inr (.inl rfl))))
        obtain ⟨⟨w, rest, whole⟩, hc⟩ : ∃ c, c = cutC 10 xt := ⟨_, rfl⟩
        have hw : w.length ≤ 65535 := by
          have h1 := kK 10 xt
          have h2 : xt.length ≤ text.length := hx1
          rw [← hc] at h1
          have h3 : w.length ≤ xt.length := h1
          omega
        have c2 := sU w hw
        rw [← hc] at c1 hh hlt
        refine rZ ?_ 2; refine aoR fun _ => ?_
        refine rZ ?_ 2
        apply cO; exact rfl; exact rfl
        refine rZ ?_ 2; rotate_left
        refine uA (uK rfl (fun _ => vM (uA ?_)) (fun hx => absurd (of_decide_eq_true ((Bool.not_eq_false' _).mp hx)) he))
        refine rZ ?_ 2; refine aoR fun _ => ?_
        refine rZ ?_ 2
        apply uE; exact rfl; exact .fn _ _ _; exact rfl; exact c1
        refine rZ ?_ 2; rotate_left
        refine uA ?_; refine rZ ?_ 2; refine aoR fun _ => ?_
        refine rZ ?_ 2; rotate_left
        refine uA ?_; refine rZ ?_ 2; refine aoR fun _ => ?_
        refine rZ ?_ 2; rotate_left
        refine uA ?_; refine rZ ?_ 2; refine aoR fun _ => ?_
        refine rZ ?_ 2
        apply spT; exact rfl
        intro hc_
        have hp_ := hc_; try simp only [nrm] at hp_
        apply vC; exact evm; exact evm
        refine rZ ?_ 2; rotate_left
        refine uA (uK rfl (fun hx => ?_) (fun hx => ?_))
        · exfalso
          simp only [Bool.and_eq_true, decide_eq_true_eq] at hx
          exact hh ⟨hx.1.1, hx.1.2⟩
        · refine vM (uA ?_)
          refine rZ ?_ 2; refine aoR fun _ => ?_
          refine rZ ?_ 2
          apply uE; exact rfl; exact .fn _ _ _; exact rfl; exact c2
          refine rZ ?_ 2; rotate_left
          refine uA ?_; refine rZ ?_ 1; refine aoR fun _ => ?_
          refine rZ ?_ 1
          apply uC; exact rfl; exact rfl
          refine yS ?_
          refine vV (fun _ => ?_)
          refine rZ ?_ 1
          apply uC; exact rfl; exact rfl
          refine uV ?_; refine rZ ?_ 1
          apply uC; exact rfl; exact rfl
          refine zS ?_; refine uV ?_; refine yS ?_
          refine vV (fun _ => ?_)
          refine rZ ?_ 1
          apply uC; exact rfl; exact rfl
          refine uV ?_; refine rZ ?_ 1
          apply uC; exact rfl; exact rfl
          refine zS ?_; refine uV ?_
          refine uG fun _ => ?_; try omega
          refine zR (fun hc_ => ?_); (try simp only [nrm] at hc_)
          apply uC; exact rfl; exact rfl
          exact uI
          refine uH ?_
          apply uC; exact rfl; exact rfl
          exact uI
          refine uH ?_
          apply uC; exact rfl; exact rfl
          exact uI
          refine uH ?_
          apply uC; exact rfl; exact rfl
          exact uI
          refine uH ?_
          apply uC; exact rfl; exact rfl
          exact uI
          refine uH ?_
          apply uC; exact rfl; exact rfl
          exact uI
          refine uH ?_
          apply uC; exact rfl; exact rfl
          exact uI
          refine uH ?_; refine rZ ?_ 1; refine cnd ?_ ?_; refine uH ?_; refine rZ ?_ 1; refine aoR fun _ => ?_
          refine rZ ?_ 1; rotate_left
          exact uI
          exact vN
          refine zR (fun hc_ => ?_); (try simp only [nrm] at hc_)
          apply uC; exact rfl; exact rfl
          exact uI
          refine uH ?_; refine rZ ?_ 1
          apply uC; exact rfl; exact rfl
          exact uI
          refine uH ?_
          apply uC; exact rfl; exact rfl
          exact uI
          refine uH ?_
          apply uC; exact rfl; exact rfl
          exact uI
          refine uH ?_
          apply uC; exact rfl; exact rfl
          exact uI
          refine uH ?_
          apply uC; exact rfl; exact rfl
          exact uI
          refine uH ?_
          apply uC; exact rfl; exact rfl
          exact uI
          refine uH ?_
          apply uC; exact rfl; exact rfl
          exact uI
          refine uH ?_
          apply uC; exact rfl; exact rfl
          exact uI
          refine uH ?_; refine rZ ?_ 1; refine cnd ?_ ?_; refine uH ?_; refine rZ ?_ 1; refine aoR fun _ => ?_
          refine rZ ?_ 1; rotate_left
          exact uI
          exact vN
          refine zU ?_
          refine vY (fun _ => ?_)
          apply uC; exact rfl; exact rfl
          exact uI
          refine uH ?_; refine rZ ?_ 1
          apply uC; exact rfl; exact rfl
          exact uI
          refine uH ?_
          apply uC; exact rfl; exact rfl
          exact uI
          refine uH ?_; refine rZ ?_ 1
          apply uC; exact rfl; exact rfl
          exact uI
          refine uH ?_
          apply uC; exact rfl; exact rfl
          exact uI
          refine uH ?_
          apply uC; exact rfl; exact rfl
          exact uI
          refine uH ?_
          apply uC; exact rfl; exact rfl
          exact uI
          refine uH ?_
          apply uC; exact rfl; exact rfl
          exact uI
          refine uH ?_
          apply uC; exact rfl; exact rfl
          exact uI
          refine uH ?_
          apply uC; exact rfl; exact rfl
          exact uI
          refine uH ?_
          apply uC; exact rfl; exact rfl
          exact uI
          refine uH ?_; refine rZ ?_ 1; refine cnd ?_ ?_; refine uH ?_; refine rZ ?_ 1; refine aoR fun _ => ?_
          refine rZ ?_ 1; rotate_left
          exact uI
          all_goals first | (exfalso; omega) | exact yT rfl rfl rfl rfl (by rw [hE]; rfl) | skip
  | some xt n τT a l τL =>
    have hP : parseT text = parseGo (xt.length + 1) xt (a ++ [l]) n := hP
    have ha : a.length + 1 ≤ 4 := by
      have h : (a ++ [l]).length ≤ 4 := hx3
      rwa [List.length_append] at h
    have hl16 : l.length ≤ 16 := hx4 l (by show l ∈ a ++ [l]; simp)
    by_cases he : xt = []
    · subst he
      refine rZ ?_ 2; refine aoR fun _ => ?_
      refine rZ ?_ 2
      apply cO; exact rfl; exact rfl
      refine rZ ?_ 2; rotate_left
      refine uA ?_; refine cnd ?_ ?_; refine zU ?_
      refine vY (fun _ => ?_)
      refine rZ ?_ 2; rotate_left
      refine yS ?_
      refine vV (fun _ => ?_)
      refine rZ ?_ 2; rotate_left
      · rename_i hx
        exact absurd hx (show ¬ decide (([] : Bt) = []) = false by decide)
      refine uA ?_
      refine wM 901 τL 10 (l.map stTV) (tmL [(2, .lo 2 τ2 1 0 0), (5, .lo 5 τ5 1 0 0)]) (stL [(2, (τ2, ⟨1, [[.d (.c (.slice none 0 0))]]⟩)), (5, (τ5, ⟨1, [[.os 900 τT 1 (a.length + 1)]]⟩)), (900, (τT, ⟨1, (a ++ [l]).map thO⟩))]) (by show some (τL, (⟨10, l.map stO⟩ : Row)) = _; rw [iH]) (by repeat' (first | exact xV | exact xB | exact xR | exact xQ | refine vK rfl (.same _) ?_ | refine vK rfl (vL (by simp)) ?_ | refine uX (by decide) rfl (FrozR.same _) ?_ | refine uX (by decide) rfl ?_ ?_ | refine vG xC ?_ | refine vG ?_ ?_ | refine uT (.same _) ?_ | refine uT (vL (by first | rfl | simp)) ?_ | refine uT (.nil _) ?_)) (uX (by decide) rfl (FrozR.same _) (uX (by decide) rfl (FrozR.same _) (uX (by decide) rfl iU xB))) ?_
      refine wM 900 τT 1 ((a ++ [l]).map fun l => [stsTV l]) (tmL [(2, .lo 2 τ2 1 0 0), (5, .lo 5 τ5 1 0 0)]) (stL [(2, (τ2, ⟨1, [[.d (.c (.slice none 0 0))]]⟩)), (5, (τ5, ⟨1, [[.d (.sl 1 ((a ++ [l]).map fun l => [stsTV l]))]]⟩))]) (by show some (τT, (⟨1, (a ++ [l]).map thO⟩ : Row)) = _; rw [rE]) (by repeat' (first | exact xV | exact xB | exact xR | exact xQ | refine vK rfl (.same _) ?_ | refine vK rfl (vL (by simp)) ?_ | refine uX (by decide) rfl (FrozR.same _) ?_ | refine uX (by decide) rfl ?_ ?_ | refine vG xC ?_ | refine vG ?_ ?_ | refine uT (.same _) ?_ | refine uT (vL (by first | rfl | simp)) ?_ | refine uT (.nil _) ?_)) (by repeat' (first | exact xV | exact xB | exact xR | exact xQ | refine vK rfl (.same _) ?_ | refine vK rfl (vL (by simp)) ?_ | refine uX (by decide) rfl (FrozR.same _) ?_ | refine uX (by decide) rfl ?_ ?_ | refine vG xC ?_ | refine vG ?_ ?_ | refine uT (.same _) ?_ | refine uT (vL (by first | rfl | simp)) ?_ | refine uT (.nil _) ?_)) ?_
      have hc := pU (a ++ [l])
      have hE : parseT text = if checkT (a ++ [l]) = 0 then (a ++ [l], 0, 0) else ([], 0, 190) := by rw [hP]; exact mY
      by_cases h0 : checkT (a ++ [l]) = 0
      · rw [if_pos h0] at hE
        rw [h0] at hc
        refine rZ ?_; refine aoR fun _ => ?_
        refine rZ ?_
        apply uE; exact rfl; exact .fn _ _ _; exact rfl; exact hc
        refine rZ ?_; refine cnd ?_ ?_
        refine zT (fun _ => ?_); (try omega)
        refine aG (fun _ => ?_); (try omega)
        refine rZ ?_; refine aoR fun _ => ?_
        refine rZ ?_; rotate_left
        all_goals first | exact yT rfl rfl rfl rfl (by rw [hE]; rfl) | skip
      · rw [if_neg h0] at hE
        refine rZ ?_; refine aoR fun _ => ?_
        refine rZ ?_
        apply uE; exact rfl; exact .fn _ _ _; exact rfl; exact hc
        refine rZ ?_; refine cnd ?_ ?_
        refine zT (fun _ => ?_); (try omega)
        refine rZ ?_; refine aoR fun _ => ?_
        refine rZ ?_; rotate_left
        refine aG (fun _ => ?_); (try omega)
        all_goals first | (exfalso; exact h0 (by assumption)) | exact yT rfl rfl rfl rfl (by rw [hE]; rfl)
    · have c1 := uAY xt 10 (by have : xt.length ≤ text.length := hx1; omega)
      have hlt := fU 10 he
      by_cases hh : (cutC 10 xt).2.2 = true ∧ (cutC 10 xt).1 = wHart ∧ a.length + 1 < 4
      · have k43 : KeyOf 43 900 := ⟨trivial⟩
        have hq := iK (t := a ++ [l]) (n := (n : Int)) he ⟨hh.1, hh.2.1, by rw [List.length_append]; exact hh.2.2⟩
        obtain ⟨⟨w, rest, whole⟩, hc⟩ : ∃ c, c = cutC 10 xt := ⟨_, rfl⟩
        rw [← hc] at c1 hh hq hlt
        obtain ⟨rfl, rfl, h4⟩ := hh
        refine rZ ?_ 2; refine aoR fun _ => ?_
        refine rZ ?_ 2
        apply cO; exact rfl; exact rfl
        refine rZ ?_ 2; rotate_left
        refine uA (uK rfl (fun _ => vM (uA ?_)) (fun hx => absurd (of_decide_eq_true ((Bool.not_eq_false' _).mp hx)) he))
        refine rZ ?_ 2; refine aoR fun _ => ?_
        refine rZ ?_ 2
        apply uE; exact rfl; exact .fn _ _ _; exact rfl; exact c1
        refine rZ ?_ 2; rotate_left
        refine uA ?_; refine rZ ?_ 2; refine aoR fun _ => ?_
        refine rZ ?_ 2; rotate_left
        refine uA ?_; refine rZ ?_ 2; refine aoR fun _ => ?_
        refine rZ ?_ 2; rotate_left
        refine uA ?_; refine rZ ?_ 2; refine aoR fun _ => ?_
        refine rZ ?_ 2
        apply spT; exact rfl
        intro hc_
        have hp_ := hc_; try simp only [nrm] at hp_
        apply vC; exact evm; exact evm
        refine rZ ?_ 2; rotate_left
        refine uA (uK rfl (fun _ => ?_) (fun hx => ?_))
        · refine wM 901 τL 10 (l.map stTV) (tmL [(0, .bs rest), (2, .lo 2 τ2 1 0 0), (5, .lo 5 τ5 1 0 0), (6, .int .i64 n)]) (stL [(2, (τ2, ⟨1, [[.d (.c (.slice none 0 0))]]⟩)), (5, (τ5, ⟨1, [[.os 900 τT 1 (a.length + 1)]]⟩)), (900, (τT, ⟨1, (a ++ [l]).map thO⟩))]) (by show some (τL, (⟨10, l.map stO⟩ : Row)) = _; rw [iH]) (by repeat' (first | exact xV | exact xB | exact xR | exact xQ | refine vK rfl (.same _) ?_ | refine vK rfl (vL (by simp)) ?_ | refine uX (by decide) rfl (FrozR.same _) ?_ | refine uX (by decide) rfl ?_ ?_ | refine vG xC ?_ | refine vG ?_ ?_ | refine uT (.same _) ?_ | refine uT (vL (by first | rfl | simp)) ?_ | refine uT (.nil _) ?_)) (uX (by decide) rfl (FrozR.same _) (uX (by decide) rfl (FrozR.same _) (uX (by decide) rfl iU xB))) ?_
          refine rZ ?_ 2; refine aoR fun _ => ?_
          refine rZ ?_ 2; rotate_left
          refine uA (cJ ?_)
          show awp _ _ (.region 6 _ _) _ _ _
          refine bI (kx := 900) (q := 1) (i := (a ++ [l]).length) (o := 0) (rows := (a ++ [l]).map thO ++ [[.d (.c (.slice none 0 0))]]) (row := [.d (.c (.slice none 0 0))]) 901 10 rfl jX rfl (by decide) fun τL' => ?_
          rename_i v11
          have hlt' : rest.length < xt.length := hlt
          have hx2' : n + xt.length ≤ text.length + 1 := hx2
          have hx1' : xt.length ≤ text.length := hx1
          refine aoR fun _ => ?_; refine rZ ?_ 2
          rotate_left
          refine uA (uU (.some rest (n + 1) (v11, 3) (a ++ [l]) [] τL') ⟨hP.trans hq, by show rest.length ≤ _; omega, by show n + 1 + rest.length ≤ _; omega, by show (a ++ [l] ++ [[]]).length ≤ 4; rw [List.length_append, List.length_append]; exact h4, fun k h => ?_⟩ hlt' (uL rfl (uL rfl (uL rfl (uO rfl (by show (n : Int) + 1 = ((n + 1 : Nat) : Int); omega) (vW _))))) (uY rfl (uP rfl (by show [[OV.os 900 _ 1 (((a ++ [l]).map thO).length + 1)]] = [[OV.os 900 _ 1 ((a ++ [l]).length + 1)]]; rw [List.length_map]) (uP rfl jW (uY rfl (uS _))))))
          rcases List.mem_append.1 h with h | h
          · exact hx4 k h
          · rcases List.mem_singleton.1 h with rfl
            exact Nat.zero_le _
        · have hx : ((true && decide (wHart = [104, 97, 114, 116])) && decide (((a.length + 1 : Nat) : Int) < 4)) = false := hx
          rw [show decide (((a.length + 1 : Nat) : Int) < 4) = true from decide_eq_true (by omega)] at hx
          exact absurd hx (by decide)
      · have hh' : ¬ ((cutC 10 xt).2.2 = true ∧ (cutC 10 xt).1 = wHart ∧ (a ++ [l]).length < 4) := fun h => hh ⟨h.1, h.2.1, by have := h.2.2; rwa [List.length_append] at this⟩
        have hEr : ((cutC 10 xt).2.2 = false ∨ (stepR (cutC 10 xt).1).2 = false ∨ l.length = 16) → parseT text = ([], (n : Int), 190) := fun h => hP.trans (mZ he hh' (by
          rcases h with h | h | h
          · exact .inl h
          · exact .inr (.inl h)
          · exact .inr (.inr (.inr (by rw [fK]; exact h)))))
        have hGo : (cutC 10 xt).2.2 = true → (stepR (cutC 10 xt).1).2 = true → l.length ≠ 16 → parseT text = parseGo ((cutC 10 xt).2.1.length + 1) (cutC 10 xt).2.1 (a ++ [l ++ [(stepR (cutC 10 xt).1).1]]) (n + 1) := fun h1 h2 h3 => hP.trans ((uAV he hh' h1 h2 (by simp) (by rw [fK]; exact h3)).trans (by rw [mN]))
        obtain ⟨⟨w, rest, whole⟩, hc⟩ : ∃ c, c = cutC 10 xt := ⟨_, rfl⟩
        have hw : w.length ≤ 65535 := by
          have h1 := kK 10 xt
          have h2 : xt.length ≤ text.length := hx1
          rw [← hc] at h1
          have h3 : w.length ≤ xt.length := h1
          omega
        have c2 := sU w hw
        rw [← hc] at c1 hh hlt hEr hGo
        refine rZ ?_ 2; refine aoR fun _ => ?_
        refine rZ ?_ 2
        apply cO; exact rfl; exact rfl
        refine rZ ?_ 2; rotate_left
        refine uA (uK rfl (fun _ => vM (uA ?_)) (fun hx => absurd (of_decide_eq_true ((Bool.not_eq_false' _).mp hx)) he))
        refine rZ ?_ 2; refine aoR fun _ => ?_
        refine rZ ?_ 2
        apply uE; exact rfl; exact .fn _ _ _; exact rfl; exact c1
        refine rZ ?_ 2; rotate_left
        refine uA ?_; refine rZ ?_ 2; refine aoR fun _ => ?_
        refine rZ ?_ 2; rotate_left
        refine uA ?_; refine rZ ?_ 2; refine aoR fun _ => ?_
        refine rZ ?_ 2; rotate_left
        refine uA ?_; refine rZ ?_ 2; refine aoR fun _ => ?_
        refine rZ ?_ 2
        apply spT; exact rfl
        intro hc_
        have hp_ := hc_; try simp only [nrm] at hp_
        apply vC; exact evm; exact evm
        refine rZ ?_ 2; rotate_left
        refine uA (uK rfl (fun hx => ?_) (fun hx => ?_))
        · exfalso
          simp only [Bool.and_eq_true, decide_eq_true_eq] at hx
          have h3 : ((a.length + 1 : Nat) : Int) < 4 := hx.2
          exact hh ⟨hx.1.1, hx.1.2, by omega⟩
        · refine vM (uA ?_)
          refine rZ ?_ 2; refine aoR fun _ => ?_
          refine rZ ?_ 2
          apply uE; exact rfl; exact .fn _ _ _; exact rfl; exact c2
          refine rZ ?_ 2; rotate_left
          refine uA ?_
          rename_i v11
          have k84 : KeyOf 84 901 := ⟨trivial⟩
          refine rZ ?_ 1; refine aoR fun _ => ?_
          refine rZ ?_ 1
          apply uC; exact rfl; exact rfl
          refine yS ?_
          refine vV (fun _ => ?_)
          refine rZ ?_ 1
          apply uC; exact rfl; exact rfl
          refine uV ?_; refine rZ ?_ 1
          apply uC; exact rfl; exact rfl
          refine zS ?_; refine uV ?_; refine yS ?_
          refine vV (fun _ => ?_)
          refine rZ ?_ 1
          apply uC; exact rfl; exact rfl
          refine uV ?_; refine rZ ?_ 1
          apply uC; exact rfl; exact rfl
          refine zS ?_; refine uV ?_
          refine uG fun _ => ?_; try omega
          refine rZ ?_ 1
          apply uC; exact rfl; exact rfl
          refine uV ?_; refine rZ ?_ 1
          apply uC; exact rfl; exact rfl
          refine uV ?_; refine rZ ?_ 1
          apply uC; exact rfl; exact rfl
          refine uV ?_; refine rZ ?_ 1
          apply uC; exact rfl; exact rfl
          refine uV ?_; refine rZ ?_ 1
          apply uC; exact rfl; exact rfl
          refine uV ?_
          ((first | first
            | (apply uE; exact rfl; exact .fn _ _ _; exact rfl; fail)
            | (apply vJ; exact rfl; exact .fn _ _ _; exact rfl; fail) | (first | (refine vI ?_ (by exact rfl) ?_; exact rfl) | (refine aI ?_ (by exact rfl) ?_; exact rfl)) | (first | (apply kX; (first | exact eH | exact gN); exact rfl) | (apply oA; (first | exact eH | exact gN); exact rfl)) | (first
            | (apply vF; exact rfl; exact rfl; (first | omega | ((simp only [List.length_append, List.length_cons, List.length_nil]); omega)))
            | (apply yX; exact rfl; exact rfl; (first | omega | ((simp only [List.length_append, List.length_cons, List.length_nil]); omega)))
            | (apply xG; exact rfl; exact rfl)
            | (apply qZ; exact rfl; exact rfl)
            | (apply cO; exact rfl; exact rfl)
            | (apply D_neqL; exact rfl; exact rfl)
            | (apply vS; exact rfl; exact rfl; exact rfl)
            | (apply qY; exact rfl; exact rfl; exact rfl)
            | (apply wN; exact rfl; exact rfl; exact rfl; (first | exact rfl | exact ⟨_, _, rfl, by omega, rfl⟩); (first | exact rfl | exact ⟨_, _, rfl, by omega, rfl⟩); (first | decide | omega); (first | decide | omega))
            | (apply gB; exact rfl; exact rfl; exact rfl; (first | exact rfl | exact ⟨_, _, rfl, by omega, rfl⟩); (first | exact rfl | exact ⟨_, _, rfl, by omega, rfl⟩); (first | decide | omega); (first | decide | omega))) | (first | (apply wD; exact rfl; exact rfl; exact rfl; exact rfl; exact wR (by omega); exact rfl) | (apply dR; exact rfl; exact rfl; exact rfl; exact rfl; exact wR (by omega); exact rfl) | (apply dQ; exact rfl; exact rfl; exact rfl; exact rfl; exact rfl; exact rfl; exact wR (by omega); exact Nat.le_of_ble_eq_true rfl) | (apply yB; exact rfl; exact rfl; exact rfl; exact rfl; exact rfl; exact rfl; exact wR (by omega); exact Nat.le_of_ble_eq_true rfl))))
          apply uC; exact rfl; exact rfl
          refine uV ?_; refine rZ ?_ 1
          apply uC; exact rfl; exact rfl
          refine uV ?_; refine rZ ?_ 1; refine cnd ?_ ?_
          refine zR (fun hc_ => ?_); (try simp only [nrm] at hc_)
          refine rZ ?_ 1; refine aoR fun _ => ?_
          refine rZ ?_ 1; rotate_left
          refine zS ?_; refine uV ?_
          refine uG fun _ => ?_; try omega
          refine rZ ?_ 1; rotate_left
          iterate 7 exact vN
          refine zR (fun hc_ => ?_); (try simp only [nrm] at hc_)
          apply uC; exact rfl; exact rfl
          exact uI
          refine uH ?_
          apply uC; exact rfl; exact rfl
          exact uI
          refine uH ?_
          apply uC; exact rfl; exact rfl
          exact uI
          refine uH ?_
          apply uC; exact rfl; exact rfl
          exact uI
          refine uH ?_
          apply uC; exact rfl; exact rfl
          exact uI
          refine uH ?_
          apply uC; exact rfl; exact rfl
          exact uI
          refine uH ?_
          apply uC; exact rfl; exact rfl
          exact uI
          refine uH ?_; refine rZ ?_ 1; refine cnd ?_ ?_; refine uH ?_; refine rZ ?_ 1; refine aoR fun _ => ?_
          refine rZ ?_ 1; rotate_left
          exact uI
          exact vN
          refine zR (fun hc_ => ?_); (try simp only [nrm] at hc_)
          apply uC; exact rfl; exact rfl
          exact uI
          refine uH ?_; refine rZ ?_ 1
          apply uC; exact rfl; exact rfl
          exact uI
          refine uH ?_
          apply uC; exact rfl; exact rfl
          exact uI
          refine uH ?_
          apply uC; exact rfl; exact rfl
          exact uI
          refine uH ?_
          apply uC; exact rfl; exact rfl
          exact uI
          refine uH ?_
          apply uC; exact rfl; exact rfl
          exact uI
          refine uH ?_
          apply uC; exact rfl; exact rfl
          exact uI
          refine uH ?_
          apply uC; exact rfl; exact rfl
          exact uI
          refine uH ?_
          apply uC; exact rfl; exact rfl
          exact uI
          refine uH ?_; refine rZ ?_ 1; refine cnd ?_ ?_; refine uH ?_; refine rZ ?_ 1; refine aoR fun _ => ?_
          refine rZ ?_ 1; rotate_left
          exact uI
          exact vN
          refine zU ?_
          refine vY (fun _ => ?_)
          apply uC; exact rfl; exact rfl
          exact uI
          refine uH ?_; refine rZ ?_ 1
          apply uC; exact rfl; exact rfl
          exact uI
          refine uH ?_
          apply uC; exact rfl; exact rfl
          exact uI
          refine uH ?_; refine rZ ?_ 1
          apply uC; exact rfl; exact rfl
          exact uI
          refine uH ?_
          apply uC; exact rfl; exact rfl
          exact uI
          refine uH ?_
          apply uC; exact rfl; exact rfl
          exact uI
          refine uH ?_
          apply uC; exact rfl; exact rfl
          exact uI
          refine uH ?_
          apply uC; exact rfl; exact rfl
          exact uI
          refine uH ?_
          apply uC; exact rfl; exact rfl
          exact uI
          refine uH ?_
          apply uC; exact rfl; exact rfl
          exact uI
          refine uH ?_
          apply uC; exact rfl; exact rfl
          exact uI
          refine uH ?_; refine rZ ?_ 1; refine cnd ?_ ?_; refine uH ?_; refine rZ ?_ 1; refine aoR fun _ => ?_
          refine rZ ?_ 1; rotate_left
          exact uI
          all_goals first | (exfalso; omega) | (exfalso; have h : ((a.length + 1 : Nat) : Int) = 0 := hc_.resolve_left (by decide); omega) | skip
          · exact yT rfl rfl rfl rfl (by rw [hEr (.inr (.inr (by have h : (l.length : Int) = 16 := hc_.resolve_left (by decide); omega)))]; rfl)
          · rename_i g1 g2 g3 g4
            refine cI (tmL [(0, .bs rest), (2, .lo 2 τ2 1 0 0), (5, .lo 5 τ5 1 0 0), (6, .int .i64 n), (10, .int .i64 (a.length + 1 : Nat)), (11, .lo 11 (v11, 5) 10 0 0)]) (stL [(2, (τ2, ⟨1, [[.d (.c (.slice none 0 0))]]⟩)), (5, (τ5, ⟨1, [[.os 900 τT 1 (a.length + 1)]]⟩)), (900, (τT, ⟨1, a.map thO ++ [[.os 901 τL 10 l.length]]⟩)), (901, (τL, ⟨10, l.map stO⟩)), (11, ((v11, 5), ⟨10, [stO (stepR w).1]⟩))]) leP leP ?_
            have hlt' : rest.length < xt.length := hlt
            have hx2' : n + xt.length ≤ text.length + 1 := hx2
            have hx1' : xt.length ≤ text.length := hx1
            refine uJ (E := E) ?_ (fun _ => ?_); exact rfl
            refine rZ ?_
            apply dR; exact rfl; exact rfl; exact rfl; exact rfl; exact wR (by omega); exact rfl
            refine rZ ?_
            apply yB; exact rfl; exact rfl; exact rfl; exact rfl; exact rfl; exact rfl; exact wR (by omega); exact Nat.le_of_ble_eq_true rfl
            refine rZ ?_; refine aoR fun _ => ?_
            refine rZ ?_; rotate_left
            have hn16 : ¬ l.length = 16 := fun h => g4 (by rw [h]; rfl)
            refine uU (.some rest (n + 1) τT a (l ++ [(stepR w).1]) (_, 12)) ⟨hGo g1 g2 hn16, by show rest.length ≤ _; omega, by show n + 1 + rest.length ≤ _; omega, by show (a ++ [l ++ [(stepR w).1]]).length ≤ 4; rw [List.length_append]; exact ha, fun k h => ?_⟩ hlt' (uL rfl (uL rfl (uL rfl (uO rfl (by show (n : Int) + 1 = ((n + 1 : Nat) : Int); omega) (vW _))))) (uY rfl (uY rfl (uP rfl (lZ (a := a) (l := l) (s := (stepR w).1) (i := ((a.length + 1 : Nat) : Int) - 1) (by omega)) (uP rfl (by rw [List.map_append]; rfl) (uS _)))))
            rcases List.mem_append.1 h with h | h
            · exact hx4 k (List.mem_append.2 (.inl h))
            · rcases List.mem_singleton.1 h with rfl
              rw [List.length_append]
              show l.length + 1 ≤ 16
              omega
          · exact yT rfl rfl rfl rfl (by rw [hEr (.inr (.inl (hc_.resolve_left (by decide))))]; rfl)
          · exact yT rfl rfl rfl rfl (by rw [hEr (.inl (by assumption))]; rfl)
end
set_option maxRecDepth 100000
section
open Go.RowKit Go.Lib
theorem regI_none {s : Bt} (h : ∀ j : Nat, j < 4 → regW ((j : Int) + 1) ≠ s) : regI s = -1 := by
 have h1 : ¬ s = regW 1 := fun e => h 0 (by decide) e.symm
 have h2 : ¬ s = regW 2 := fun e => h 1 (by decide) e.symm
 have h3 : ¬ s = regW 3 := fun e => h 2 (by decide) e.symm
 have h4 : ¬ s = regW 4 := fun e => h 3 (by decide) e.symm
 unfold regI regOf
 rw [if_neg h1, if_neg h2, if_neg h3, if_neg h4]; rfl
theorem nameI_none {s : Bt} (h : ∀ j : Nat, j < 4 → nameW (j : Int) ≠ s) : nameI s = -1 := by
 have h1 : ¬ s = nameW 0 := fun e => h 0 (by decide) e.symm
 have h2 : ¬ s = nameW 1 := fun e => h 1 (by decide) e.symm
 have h3 : ¬ s = nameW 2 := fun e => h 2 (by decide) e.symm
 have h4 : ¬ s = nameW 3 := fun e => h 3 (by decide) e.symm
 unfold nameI nameOf
 rw [if_neg h1, if_neg h2, if_neg h3, if_neg h4]; rfl
theorem setI_none {s : Bt} (h : ∀ j : Nat, j < 3 → setW ((j : Int) + 1) ≠ s) : setI s = -1 := by
 have h1 : ¬ s = setW 1 := fun e => h 0 (by decide) e.symm
 have h2 : ¬ s = setW 2 := fun e => h 1 (by decide) e.symm
 have h3 : ¬ s = setW 3 := fun e => h 2 (by decide) e.symm
 unfold setI setOf
 rw [if_neg h1, if_neg h2, if_neg h3]; rfl
set_option maxHeartbeats 4000000 in
theorem xY (s : Bt) : Pure E.P 109 [.bs s] (.int .i64 (regI s)) := by
 refine fnA Tryz.func109 Tryz.ntmps109 ?_
 refine rZ ?_; refine aoR fun _ => ?_
 refine rZ ?_; refine aoR fun _ => ?_
 refine rZ ?_; rotate_left
 refine vB (X := Nat) (fun i => tmL [(0, .bs s), (3, .int .i64 ((i : Int) + 1))]) (fun _ => stL []) (fun i => i ≤ 4 ∧ ∀ j : Nat, j < i → regW ((j : Int) + 1) ≠ s) (fun i => 4 - i) 0 ⟨by omega, fun j hj => by omega⟩ leP leP ?_
 rintro i ⟨hi, hall⟩
 by_cases h4 : i < 4
 ·have c1 := aU tM (n := (i : Int) + 1) (by omega)
  refine rZ ?_; refine aoR fun _ => ?_
  refine rZ ?_; refine cnd ?_ ?_
  refine uF fun _ => ?_; try omega
  refine rZ ?_; refine aoR fun _ => ?_
  refine rZ ?_
  apply uE; exact rfl; exact .fn _ _ _; exact rfl; exact c1
  refine rZ ?_
  apply xG; exact rfl; exact rfl
  refine rZ ?_; refine cnd ?_ ?_
  refine uF fun _ => ?_; try omega
  refine rZ ?_; refine aoR fun _ => ?_
  refine rZ ?_; rotate_left
  refine uG fun _ => ?_; try omega
  refine rZ ?_; refine aoR fun _ => ?_
  refine rZ ?_; rotate_left
  refine uG fun _ => ?_; try omega
  ·rename_i he _
   refine wL rfl ?_
   have he' : regW ((i : Int) + 1) = s := he
   rw [← he', bC (by omega)]
  ·rename_i he _
   refine uU (i + 1) ⟨by omega, fun j hj => ?_⟩ (by omega) leP leP
   by_cases e : j = i
   ·subst e; exact he
   ·exact hall j (by omega)
 ·have e : i = 4 := by omega
  subst e
  refine rZ ?_; refine aoR fun _ => ?_
  refine rZ ?_; refine cnd ?_ ?_
  refine uF fun _ => ?_; try omega
  refine uG fun _ => ?_; try omega
  refine rZ ?_; refine aoR fun _ => ?_
  refine rZ ?_; rotate_left
  all_goals exact wL rfl (regI_none hall).symm
set_option maxHeartbeats 4000000 in
theorem dA (s : Bt) : Pure E.P 110 [.bs s] (.int .i64 (nameI s)) := by
 refine fnA Tryz.func110 Tryz.ntmps110 ?_
 refine rZ ?_; refine aoR fun _ => ?_
 refine rZ ?_; refine aoR fun _ => ?_
 refine rZ ?_; rotate_left
 refine vB (X := Nat) (fun i => tmL [(0, .bs s), (3, .int .i64 (i : Int))]) (fun _ => stL []) (fun i => i ≤ 4 ∧ ∀ j : Nat, j < i → nameW (j : Int) ≠ s) (fun i => 4 - i) 0 ⟨by omega, fun j hj => by omega⟩ leP leP ?_
 rintro i ⟨hi, hall⟩
 by_cases h4 : i < 4
 ·have c1 := fD (n := (i : Int)) (by omega)
  refine rZ ?_; refine aoR fun _ => ?_
  refine rZ ?_; refine cnd ?_ ?_
  refine uF fun _ => ?_; try omega
  refine rZ ?_; refine aoR fun _ => ?_
  refine rZ ?_
  apply uE; exact rfl; exact .fn _ _ _; exact rfl; exact c1
  refine rZ ?_
  apply xG; exact rfl; exact rfl
  refine rZ ?_; refine cnd ?_ ?_
  refine uF fun _ => ?_; try omega
  refine rZ ?_; refine aoR fun _ => ?_
  refine rZ ?_; rotate_left
  refine uG fun _ => ?_; try omega
  refine rZ ?_; refine aoR fun _ => ?_
  refine rZ ?_; rotate_left
  refine uG fun _ => ?_; try omega
  ·rename_i he _
   refine wL rfl ?_
   have he' : nameW (i : Int) = s := he
   rw [← he', aN (by omega)]
  ·rename_i he _
   refine uU (i + 1) ⟨by omega, fun j hj => ?_⟩ (by omega) leP leP
   by_cases e : j = i
   ·subst e; exact he
   ·exact hall j (by omega)
 ·have e : i = 4 := by omega
  subst e
  refine rZ ?_; refine aoR fun _ => ?_
  refine rZ ?_; refine cnd ?_ ?_
  refine uF fun _ => ?_; try omega
  refine uG fun _ => ?_; try omega
  refine rZ ?_; refine aoR fun _ => ?_
  refine rZ ?_; rotate_left
  all_goals exact wL rfl (nameI_none hall).symm
set_option maxHeartbeats 4000000 in
theorem oJ (s : Bt) : Pure E.P 108 [.bs s] (.int .i64 (setI s)) := by
 refine fnA Tryz.func108 Tryz.ntmps108 ?_
 refine rZ ?_; refine aoR fun _ => ?_
 refine rZ ?_; refine aoR fun _ => ?_
 refine rZ ?_; rotate_left
 refine vB (X := Nat) (fun i => tmL [(0, .bs s), (3, .int .i64 ((i : Int) + 1))]) (fun _ => stL []) (fun i => i ≤ 3 ∧ ∀ j : Nat, j < i → setW ((j : Int) + 1) ≠ s) (fun i => 3 - i) 0 ⟨by omega, fun j hj => by omega⟩ leP leP ?_
 rintro i ⟨hi, hall⟩
 by_cases h4 : i < 3
 ·have c1 := qI (n := (i : Int) + 1) (by omega)
  refine rZ ?_; refine aoR fun _ => ?_
  refine rZ ?_; refine cnd ?_ ?_
  refine uF fun _ => ?_; try omega
  refine rZ ?_; refine aoR fun _ => ?_
  refine rZ ?_
  apply uE; exact rfl; exact .fn _ _ _; exact rfl; exact c1
  refine rZ ?_
  apply xG; exact rfl; exact rfl
  refine rZ ?_; refine cnd ?_ ?_
  refine uF fun _ => ?_; try omega
  refine rZ ?_; refine aoR fun _ => ?_
  refine rZ ?_; rotate_left
  refine uG fun _ => ?_; try omega
  refine rZ ?_; refine aoR fun _ => ?_
  refine rZ ?_; rotate_left
  refine uG fun _ => ?_; try omega
  ·rename_i he _
   refine wL rfl ?_
   have he' : setW ((i : Int) + 1) = s := he
   rw [← he', gD (by omega)]
  ·rename_i he _
   refine uU (i + 1) ⟨by omega, fun j hj => ?_⟩ (by omega) leP leP
   by_cases e : j = i
   ·subst e; exact he
   ·exact hall j (by omega)
 ·have e : i = 3 := by omega
  subst e
  refine rZ ?_; refine aoR fun _ => ?_
  refine rZ ?_; refine cnd ?_ ?_
  refine uF fun _ => ?_; try omega
  refine uG fun _ => ?_; try omega
  refine rZ ?_; refine aoR fun _ => ?_
  refine rZ ?_; rotate_left
  all_goals exact wL rfl (setI_none hall).symm
theorem numB_len {s : Bt} {i : Nat} (h : i = s.length ∨ i = 11) (hi : i ≤ s.length ∧ i ≤ 11) : (s.take i).foldl numStep 0 = numB s := by
 unfold numB
 rcases h with rfl | rfl
 ·rw [List.take_length, List.take_of_length_le (by omega)]
 ·rfl
theorem numStep_eq (n : Int) (b : UInt8) : IntKind.u64.wrap (IntKind.u64.wrap (IntKind.u64.wrap (n * 10) + IntKind.u64.wrap (b.toNat : Int)) - 48) = numStep n b := by
 have hb := b.toNat_lt
 unfold numStep
 rw [IntKind.wrap_u64, IntKind.wrap_u64, IntKind.wrap_u64, IntKind.wrap_u64]
 omega
set_option maxHeartbeats 4000000 in
theorem rnumber_p (s : Bt) (hl : s.length ≤ 1152921504606846976) : Pure E.P 172 [.bs s] (.int .u64 (numB s)) := by
 refine fnA Tryz.func172 Tryz.ntmps172 ?_
 refine rZ ?_; refine aoR fun _ => ?_
 refine rZ ?_; refine aoR fun _ => ?_
 refine rZ ?_; refine aoR fun _ => ?_
 refine rZ ?_; rotate_left
 refine vB (X := Nat) (fun i => tmL [(0, .bs s), (3, .int .u64 ((s.take i).foldl numStep 0)), (4, .int .i64 i)]) (fun _ => stL []) (fun i => i ≤ s.length ∧ i ≤ 11) (fun i => 11 - i) 0 (by omega) leP leP ?_
 rintro i hi
 by_cases h : i < s.length ∧ i < 11
 ·obtain ⟨h1, h2⟩ := h
  have ht : s.take (i + 1) = s.take i ++ [s.getD (i : Int).toNat 0] := vT s 0 i h1
  refine rZ ?_; refine aoR fun _ => ?_
  refine rZ ?_
  apply vS; exact rfl; exact rfl; exact rfl
  refine rZ ?_; refine cnd ?_ ?_; refine wT ?_
  iterate 2 refine uF fun _ => ?_; try omega
  refine rZ ?_; refine aoR fun _ => ?_
  refine rZ ?_
  apply uQ; apply uBE; exact rfl; exact rfl
  refine rZ ?_
  (apply gA; exact rfl; exact rfl; exact rfl; exact rfl; exact ⟨by omega, by omega⟩)
  apply uQ; apply nX; exact rfl; exact rfl; exact rfl; exact rfl; exact rfl
  apply uQ; apply uAL; exact rfl; exact rfl
  apply uQ; apply uAD; exact rfl; exact rfl
  refine rZ ?_; refine aoR fun _ => ?_
  refine rZ ?_; rotate_left
  refine wU (fun hc_ => ?_); (try simp only [nrm] at hc_)
  refine rZ ?_; refine aoR fun _ => ?_
  refine rZ ?_; rotate_left
  ·refine uU (i + 1) (by omega) (by omega) (uL rfl (uO rfl ?_ leP)) leP
   rw [ht, List.foldl_append]
   exact numStep_eq _ _
  all_goals (exfalso; omega)
 ·refine rZ ?_
  refine aoR fun _ => ?_; refine rZ ?_
  apply vS; exact rfl; exact rfl; exact rfl
  refine rZ ?_; refine cnd ?_ ?_; refine wT ?_
  iterate 2 refine uF fun _ => ?_; try omega
  refine wU (fun hc_ => ?_); (try simp only [nrm] at hc_)
  refine rZ ?_; refine aoR fun _ => ?_
  refine rZ ?_; rotate_left
  all_goals first | (exact wL rfl (numB_len (by omega) (by omega))) | (exfalso; omega)
end
set_option maxRecDepth 100000
section
open Go.RowKit Go.Lib
theorem numB_bd (w : Bt) : 0 ≤ numB w ∧ numB w < 18446744073709551616 := by
 unfold numB
 rcases h : (w.take 11) with _ | ⟨c, l⟩
 ·exact ⟨Int.le_refl 0, by decide⟩
 ·have key : ∀ (l : Bt) (n : Int), 0 ≤ n ∧ n < 18446744073709551616 → 0 ≤ l.foldl numStep n ∧ l.foldl numStep n < 18446744073709551616 := by
   intro l
   induction l with
   | nil => intro n h; exact h
   | cons c l ih =>
    intro n h
    exact ih _ (by unfold numStep; omega)
  exact key _ 0 ⟨Int.le_refl 0, by decide⟩
set_option maxHeartbeats 4000000 in
theorem roperand_p (s : Bt) (hl : s.length ≤ 1152921504606846976) : Pure E.P 111 [.bs s] (.tu [.int .i64 (rOper s).1, .int .u32 (rOper s).2]) := by
 have c1 := xY s
 have c2 := rnumber_p s hl
 have hb := numB_bd s
 refine FnW.toR ?_
 refine xL (vs := [.tmp 2, .tmp 3]) Tryz.func111 (by decide) rfl Tryz.ntmps111 (Nat.le_of_ble_eq_true rfl) rfl ?_
 unfold rOper
 by_cases h : 0 < regI s
 ·rw [if_pos h]
  refine rZ ?_; refine aoR fun _ => ?_
  refine rZ ?_; refine aoR fun _ => ?_
  refine rZ ?_
  apply uE; exact rfl; exact .fn _ _ _; exact rfl; (exact c1)
  refine rZ ?_; refine aoR fun _ => ?_
  refine rZ ?_; refine cnd ?_ ?_
  refine uF fun _ => ?_; try omega
  refine rZ ?_; refine aoR fun _ => ?_
  refine rZ ?_; rotate_left
  refine uG fun _ => ?_; try omega
  all_goals first | exact uAQ rfl rfl rfl | (exfalso; omega)
 ·rw [if_neg h]
  refine rZ ?_; refine aoR fun _ => ?_
  refine rZ ?_; refine aoR fun _ => ?_
  refine rZ ?_
  apply uE; exact rfl; exact .fn _ _ _; exact rfl; (exact c1)
  refine rZ ?_; refine aoR fun _ => ?_
  refine rZ ?_; refine cnd ?_ ?_
  refine uF fun _ => ?_; try omega
  refine uG fun _ => ?_; try omega
  refine rZ ?_; refine aoR fun _ => ?_
  refine rZ ?_
  apply uE; exact rfl; exact .fn _ _ _; exact rfl; (exact c2)
  refine rZ ?_
  apply uQ; apply nX; exact rfl; exact rfl; exact rfl; exact rfl; exact rfl
  refine rZ ?_; rotate_left
  all_goals first | (exfalso; omega) | skip
  refine uAQ rfl rfl ?_
  have e : IntKind.u32.wrap ((numB s).tmod 4294967296) = numB s % 4294967296 := by
   rw [Int.tmod_eq_emod_of_nonneg hb.1, IntKind.wrap_u32]; omega
  rw [e]
theorem dX (c : UInt8) : ∀ (l : Bt) (ws : List Bt) (cur : Bt), splitC c l = ws ++ [cur] → splitC c (l ++ [c]) = ws ++ [cur, []] ∧ ∀ x, x ≠ c → splitC c (l ++ [x]) = ws ++ [cur ++ [x]]
 | [], ws, cur, h => by
  have h' : ([[]] : List Bt) = ws ++ [cur] := h
  rcases ws with _ | ⟨w, ws⟩
  ·simp at h'
   subst h'
   refine ⟨by simp [splitC], fun x hx => by simp [splitC, hx, consW]⟩
  ·simp at h'
 | y :: l, ws, cur, h => by
  obtain ⟨ws', cur', h'⟩ : ∃ ws' cur', splitC c l = ws' ++ [cur'] := ⟨_, _, (List.dropLast_concat_getLast (yM c l)).symm⟩
  obtain ⟨i1, i2⟩ := dX c l ws' cur' h'
  unfold splitC at h
  by_cases hy : y = c
  ·rw [if_pos hy, h'] at h
   have e : [] :: (ws' ++ [cur']) = ws ++ [cur] := h
   rcases ws with _ | ⟨w, ws⟩
   ·simp at e
   ·simp only [List.cons_append, List.cons.injEq] at e
    obtain ⟨e1, e2⟩ := e
    have e3 := List.append_inj' e2 rfl
    obtain ⟨rfl, e4⟩ := e3
    simp only [List.cons.injEq, and_true] at e4
    subst e4
    subst e1
    refine ⟨?_, fun x hx => ?_⟩
    ·rw [List.cons_append, splitC, if_pos hy, i1]; simp
    ·rw [List.cons_append, splitC, if_pos hy, i2 x hx]; simp
  ·rw [if_neg hy, h'] at h
   rcases ws' with _ | ⟨w', ws'⟩
   ·have e : [y :: cur'] = ws ++ [cur] := h
    rcases ws with _ | ⟨w, ws⟩
    ·simp at e
     subst e
     refine ⟨?_, fun x hx => ?_⟩
     ·rw [List.cons_append, splitC, if_neg hy, i1]; rfl
     ·rw [List.cons_append, splitC, if_neg hy, i2 x hx]; rfl
    ·simp at e
   ·have e : (y :: w') :: (ws' ++ [cur']) = ws ++ [cur] := h
    rcases ws with _ | ⟨w, ws⟩
    ·simp at e
    ·simp only [List.cons_append, List.cons.injEq] at e
     obtain ⟨e1, e2⟩ := e
     obtain ⟨rfl, e4⟩ := List.append_inj' e2 rfl
     simp only [List.cons.injEq, and_true] at e4
     subst e4
     subst e1
     refine ⟨?_, fun x hx => ?_⟩
     ·rw [List.cons_append, splitC, if_neg hy, i1]; rfl
     ·rw [List.cons_append, splitC, if_neg hy, i2 x hx]; rfl
theorem bM (c : UInt8) : ∀ (l w : Bt), w ∈ splitC c l → w.length ≤ l.length
 | [], w, h => by simp [splitC] at h; simp [h]
 | x :: l, w, h => by
  unfold splitC at h
  split at h
  ·rcases List.mem_cons.1 h with h | h
   ·simp [h]
   ·have := bM c l w h
    simp only [List.length_cons]; omega
  ·cases hs : splitC c l with
   | nil => exact absurd hs (yM c l)
   | cons v vs =>
    rw [hs] at h
    simp only [consW] at h
    rcases List.mem_cons.1 h with h | h
    ·have := bM c l v (by rw [hs]; simp)
     rw [h]; simp only [List.length_cons]; omega
    ·have := bM c l w (by rw [hs]; simp [h])
     simp only [List.length_cons]; omega
def WInv (l : Bt) (x : Nat × List Bt × Bt × Stamp) : Prop :=
 (x.1 ≤ l.length ∧ splitC 32 (l.take x.1) = x.2.1 ++ [x.2.2.1] ∧ x.2.2.1.length ≤ x.1 ∧ (l.take x.1).drop (x.1 - x.2.2.1.length) = x.2.2.1) ∨ (x.1 = l.length + 1 ∧ x.2.1 = splitC 32 l ∧ x.2.2.1 = [])
set_option maxHeartbeats 4000000 in
theorem rwords_p (l : Bt) (hl : l.length ≤ 65536) : Pure E.P 107 [.bs l] (.d (.sl 1 ((splitC 32 l).map wTV))) := by
 refine fnA Tryz.func107 Tryz.ntmps107 ?_
 refine rZ ?_; refine aoR fun _ => ?_
 refine rZ ?_; refine aoR fun _ => ?_
 refine rZ ?_; refine aoR fun _ => ?_
 refine rZ ?_; refine aoR fun _ => ?_
 refine rZ ?_; rotate_left
 rename_i u3 _ _
 refine vB (X := Nat × List Bt × Bt × Stamp) (fun x => tmL [(0, .bs l), (3, .os 3 x.2.2.2 1 x.2.1.length), (4, .int .i64 ((x.1 - x.2.2.1.length : Nat) : Int)), (5, .int .i64 x.1)]) (fun x => stL [(3, (x.2.2.2, ⟨1, x.2.1.map wO⟩))]) (WInv l) (fun x => l.length + 1 - x.1) (0, [], [], (u3, 0)) (Or.inl ⟨Nat.zero_le _, rfl, Nat.zero_le _, rfl⟩) leP leP ?_
 rintro ⟨i, ws, cur, τ⟩ hI
 dsimp only
 by_cases h : i ≤ l.length
 ·obtain ⟨hi, hs, hc, hd⟩ : i ≤ l.length ∧ splitC 32 (l.take i) = ws ++ [cur] ∧ cur.length ≤ i ∧ (l.take i).drop (i - cur.length) = cur := by
   rcases hI with hI | hI
   ·exact hI
   ·exact absurd hI.1 (by dsimp only; omega)
  have hwl : (ws.map wO).length = ws.length := List.length_map ..
  have hcut : List.take ((i : Int).toNat - ((i - cur.length : Nat) : Int).toNat) (List.drop ((i - cur.length : Nat) : Int).toNat l) = cur := by
   simp only [Int.toNat_natCast]
   rw [← List.drop_take]; exact hd
  have hwb : ws.length ≤ 65536 := by
   have h1 := zM 32 (l.take i)
   have h2 := fV 32 (l.take i)
   rw [hs] at h1
   simp at h1 h2
   omega
  refine rZ ?_ 1; refine aoR fun _ => ?_
  refine rZ ?_ 1
  apply vS; exact rfl; exact rfl; exact rfl
  refine rZ ?_ 1; refine cnd ?_ ?_
  refine uF fun _ => ?_; try omega
  refine rZ ?_ 1; refine aoR fun _ => ?_
  refine rZ ?_ 1
  apply vS; exact rfl; exact rfl; exact rfl
  refine rZ ?_ 1
  apply uC; exact rfl; exact rfl
  refine uG fun _ => ?_; try omega
  refine rZ ?_ 1
  apply uC; exact rfl; exact rfl
  refine uV ?_; refine rZ ?_ 1
  apply uC; exact rfl; exact rfl
  refine uV ?_
  (apply gA; exact rfl; exact rfl; exact rfl; exact rfl; exact ⟨by omega, by omega⟩)
  apply uC; exact rfl; exact rfl
  refine uV ?_; refine rZ ?_ 1; refine cnd ?_ ?_
  refine zR (fun hc_ => ?_); (try simp only [nrm] at hc_)
  refine rZ ?_ 1; refine aoR fun _ => ?_
  refine rZ ?_ 1
  (apply wN; exact rfl; exact rfl; exact rfl; (exact ⟨_, _, rfl, by omega, rfl⟩); (exact ⟨_, _, rfl, by omega, rfl⟩); omega; omega)
  refine rZ ?_ 1; refine aoR fun _ => ?_
  refine rZ ?_ 1; refine aoR fun _ => ?_
  refine rZ ?_ 1; rotate_left
  refine zS ?_; refine uV ?_
  refine uG fun _ => ?_; try omega
  refine rZ ?_ 1; refine aoR fun _ => ?_
  refine rZ ?_ 1; rotate_left
  iterate 3 exact vN
  refine uF fun _ => ?_; try omega
  apply uC; exact rfl; exact rfl
  exact uI
  refine uH ?_
  apply uC; exact rfl; exact rfl
  exact uI
  refine uH ?_
  apply uC; exact rfl; exact rfl
  exact uI
  refine uH ?_; refine rZ ?_ 1; refine cnd ?_ ?_; refine uH ?_; refine rZ ?_ 1; refine aoR fun _ => ?_
  refine rZ ?_ 1
  (apply wN; exact rfl; exact rfl; exact rfl; (exact ⟨_, _, rfl, by omega, rfl⟩); (exact ⟨_, _, rfl, by omega, rfl⟩); omega; omega)
  refine rZ ?_ 1; refine aoR fun _ => ?_
  refine rZ ?_ 1; refine aoR fun _ => ?_
  refine rZ ?_ 1; rotate_left
  exact uI
  refine uG fun _ => ?_; try omega
  ·rename_i hc_ v7 v8 v5
   have hlt : i < l.length := by omega
   have h32 : l.getD i 0 = 32 := by
    rcases hc_ with e | e
    ·cases e
    ·have e' : ((l.getD i 0).toNat : Int) = 32 := e
     exact UInt8.toNat_inj.1 (by show (l.getD i 0).toNat = 32; omega)
   have ht := vT l 0 i hlt
   rw [h32] at ht
   refine uU (i + 1, ws ++ [cur], [], (v7, 7)) ?_ (by dsimp only; omega) (uL rfl (vP rfl (by rw [hwl, List.length_append]; rfl) (uO rfl (by simp) leP))) (uP rfl ?_ leP)
   ·refine Or.inl ⟨by dsimp only; omega, ?_, Nat.zero_le _, by simp⟩
    dsimp only
    rw [ht, (dX 32 _ ws cur hs).1]; simp
   ·show ws.map wO ++ [[OV.bs _]] = _
    rw [hcut, List.map_append]; rfl
  ·rename_i hx v5
   have hlt : i < l.length := by omega
   have h32 : l.getD i 0 ≠ 32 := fun e => hx (by
    show ((l.getD i 0).toNat : Int) = 32
    rw [e]; rfl)
   have ht := vT l 0 i hlt
   refine uU (i + 1, ws, cur ++ [l.getD i 0], τ) ?_ (by dsimp only; omega) (uL rfl (uL rfl (uO rfl (by simp) leP))) leP
   refine Or.inl ⟨by dsimp only; omega, ?_, by simp; omega, ?_⟩
   ·dsimp only
    rw [ht, (dX 32 _ ws cur hs).2 _ h32]
   ·dsimp only
    rw [ht, List.length_append, List.length_singleton, Nat.add_sub_add_right, List.drop_append_of_le_length (by simp; omega), hd]
  ·rename_i hx v7 v8 v5
   have hil : i = l.length := by omega
   rw [hil, List.take_length] at hs
   refine uU (l.length + 1, splitC 32 l, [], (v7, 7)) (Or.inr ⟨rfl, rfl, rfl⟩) (by dsimp only; omega) (uL rfl (vP rfl (by rw [hwl]; show ws.length + 1 = (splitC 32 l).length; rw [hs]; simp) (uO rfl (by simp; omega) (uO rfl (by simp; omega) leP)))) (uP rfl ?_ leP)
   show ws.map wO ++ [[OV.bs _]] = _
   rw [hcut, hs, List.map_append]; rfl
 ·obtain ⟨hi, hws, hc⟩ : i = l.length + 1 ∧ ws = splitC 32 l ∧ cur = [] := by
   rcases hI with hI | hI
   ·exact absurd hI.1 (by dsimp only; omega)
   ·exact hI
  subst hws
  iterate 2 refine uD ?_
  refine aoR fun _ => ?_
  iterate 2 refine q11 ?_
  apply vS; exact rfl; exact rfl; exact rfl
  apply uQ; apply sO; exact rfl; exact rfl
  refine vH (uA ?_); refine cnd ?_ ?_
  refine uF fun _ => ?_; try omega
  refine uG fun _ => ?_; try omega
  refine cJ ?_
  iterate 2 refine qH ?_
  refine uAB ?_; refine uA (uD (aoR fun _ => ?_))
  refine q11 ?_
  apply uQ; apply uAE; exact rfl; exact rfl
  refine vH (uA ?_); rotate_left
  rename_i v9
  refine wM 2 (v9, 1) 1 ((splitC 32 l).map wTV) (tmL [(2, .d (.sl 1 ((splitC 32 l).map wTV)))]) (stL []) ?_ (vK rfl (vL (by simp)) xV) xB (zW (wQ rfl rfl))
  have e : ((splitC 32 l).map wTV).map (fun r => r.map OV.d) = (splitC 32 l).map wO := by rw [List.map_map]; rfl
  rw [e]; rfl
end
end Go.Proofs.YtjogffchdejabaaGreatDoor
