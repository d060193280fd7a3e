/- Parts. -/
import Derived.Shelf.Strings.Builder1
import Derived.Test.YtjogffchdejabaaGreatDoorPp3
import Derived.Test.YtjogffchdejabaaGreatDoorPp4
import Derived.Test.YtjogffchdejabaaGreatDoorPp8
import Derived.Test.YtjogffchdejabaaGreatDoorPp9
import Derived.Test.YtjogffchdejabaaGreatDoorPp13
import Derived.Test.YtjogffchdejabaaGreatDoorPp14
import Derived.Test.YtjogffchdejabaaGreatDoorPp16
set_option linter.unusedVariables false
set_option linter.unusedSimpArgs false
set_option maxHeartbeats 4000000
set_option maxRecDepth 100000
namespace Go.Proofs.YtjogffchdejabaaGreatDoor
section
open Go.RowKit Go.Lib
theorem aV : ∀ (f : Nat) (text : Bt) (t : Ts) (n : Int), (parseGo f text t n).1 = [] ∨ checkT (parseGo f text t n).1 = 0
 | 0, _, _, _ => .inl rfl
 | f + 1, text, t, n => by
  rw [parseGo]
  split
  ·split
   ·exact .inr (by assumption)
   ·exact .inl rfl
  ·split
   ·exact aV f _ _ _
   ·cases stepB (cutC 10 text).1 with
    | none => exact .inl rfl
    | some s =>
     dsimp only
     split
     ·exact .inl rfl
     ·exact aV f _ _ _
theorem fF (text : Bt) : (parseT text).1.length ≤ 4 ∧ ∀ l ∈ (parseT text).1, l.length ≤ 16 := by
 have h : (parseT text).1 = [] ∨ checkT (parseT text).1 = 0 := by
  unfold parseT
  split
  ·exact .inl rfl
  ·exact aV _ _ _ _
 rcases h with h | h
 ·rw [h]; exact ⟨by decide, fun l hl => by cases hl⟩
 ·obtain ⟨_, h2, h3⟩ := checkT_ok h
  exact ⟨h2, fun l hl => (h3 l hl).1⟩
inductive RX where
 | none (k n : Nat) (τT : Stamp)
 | some (k n : Nat) (τT : Stamp) (a : Ts) (l : List Stp) (τL : Stamp)
def RX.k : RX → Nat
 | .none k _ _ => k
 | .some k _ _ _ _ _ => k
def RX.n : RX → Nat
 | .none _ n _ => n
 | .some _ n _ _ _ _ => n
def RX.ts : RX → Ts
 | .none _ _ _ => []
 | .some _ _ _ a l _ => a ++ [l]
def RX.rows (τ5 : Stamp) : RX → Rows
 | .none _ _ τT => [(5, (τ5, ⟨1, [[.os 900 τT 1 0]]⟩)), (900, (τT, ⟨1, []⟩))]
 | .some _ _ τT a l τL => [(5, (τ5, ⟨1, [[.os 900 τT 1 (a.length + 1)]]⟩)), (900, (τT, ⟨1, a.map thO ++ [[.os 901 τL 10 l.length]]⟩)), (901, (τL, ⟨10, l.map stO⟩))]
def RX.ok (text : Bt) (x : RX) : Prop := parseT text = parseGo ((text.drop x.k).length + 1) (text.drop x.k) x.ts ((x.n : Int) + 1) ∧ x.k ≤ text.length ∧ x.n ≤ x.k ∧ x.ts.length ≤ 4 ∧ ∀ l ∈ x.ts, l.length ≤ 16
theorem getD_ten {l : Bt} {i : Nat} (h : l.getD i 0 = 10) : ((l.getD i 0).toNat : Int) = 10 := by rw [h]; rfl
theorem getD_nten {l : Bt} {i : Nat} (h : l.getD i 0 ≠ 10) : ¬ ((l.getD i 0).toNat : Int) = 10 := fun e => h (by
 have : (l.getD i 0).toNat = 10 := by omega
 exact UInt8.toNat_inj.1 this)
set_option maxHeartbeats 4000000 in
theorem oK (text : Bt) (hl : text.length ≤ 65535) : Pure E.P 18 [.bs text] (.tu [testOV (parseT text).1, .int .i64 (parseT text).2.1, .int .i64 (parseT text).2.2]) := by
  have n66 : NilS 66 := ⟨trivial⟩
  have n76 : NilS 76 := ⟨trivial⟩
  have n100 : NilS 100 := ⟨trivial⟩
  have n107 : NilS 107 := ⟨trivial⟩
  refine FnW.toR ?_
  refine xL (vs := [.cell 2 27, .tmp 3, .tmp 4]) Tryz.func18 (by decide) rfl Tryz.ntmps18 (Nat.le_of_ble_eq_true rfl) rfl ?_
  refine uR (X := Stamp) (fun τ2 => tmL [(0, .bs text), (2, .lo 2 τ2 1 0 0), (3, .int .i64 0), (4, .int .i64 0)]) (fun τ2 => stL [(2, (τ2, ⟨1, [[.d (.c (.slice none 0 0))]]⟩))]) ?_ fun τ2 => ?_
  · refine aoR fun _ => ?_
    refine rZ ?_; rotate_left
    rename_i u
    exact wA (u, 0) leP leP
  refine uR (X := Stamp) (fun τ5 => tmL [(0, .bs text), (2, .lo 2 τ2 1 0 0), (5, .lo 5 τ5 1 0 0)]) (fun τ5 => stL [(2, (τ2, ⟨1, [[.d (.c (.slice none 0 0))]]⟩)), (5, (τ5, ⟨1, [[.d (.c (.slice none 0 0))]]⟩))]) ?_ fun τ5 => ?_
  · refine aoR fun _ => ?_
    refine rZ ?_; rotate_left
    rename_i u
    exact wA (u, 1) leP leP
  refine uR (X := Unit) (fun _ => tmL [(0, .bs text), (2, .lo 2 τ2 1 0 0), (5, .lo 5 τ5 1 0 0)]) (fun _ => stL [(2, (τ2, ⟨1, [[.d (.c (.slice none 0 0))]]⟩)), (5, (τ5, ⟨1, [[.d (.c (.slice none 0 0))]]⟩))]) ?_ fun _ => ?_
  · refine rZ ?_
    refine aoR fun _ => ?_; refine rZ ?_
    apply vS; exact rfl; exact rfl; exact rfl
    refine rZ ?_; refine cnd ?_ ?_
    refine uF fun _ => ?_; try omega
    refine uG fun _ => ?_; try omega
    refine rZ ?_; rotate_left
    all_goals first | (exfalso; omega) | exact wA () leP leP
  refine bI (kx := 5) (i := 0) (o := 0) 900 1 rfl rfl rfl (by decide) fun τT => ?_
  refine uD (aoR fun _ => ?_)
  refine rZ ?_ 2; rotate_left
  refine uA (uD ?_); refine wH ?_
  refine vB (X := RX) (fun x => tmL [(0, .bs text), (2, .lo 2 τ2 1 0 0), (5, .lo 5 τ5 1 0 0), (6, .int .i64 x.k), (7, .int .i64 x.n)]) (fun x => stL ((2, (τ2, ⟨1, [[.d (.c (.slice none 0 0))]]⟩)) :: x.rows τ5)) (RX.ok text) (fun x => text.length - x.k) (.none 0 0 τT) ⟨by show parseT text = _; unfold parseT; rw [if_neg (by omega)]; rfl, Nat.zero_le _, Nat.le_refl _, Nat.zero_le _, fun l h => by cases h⟩ leP leP ?_
  rintro x ⟨hP, hk, hn, h4, h16⟩
  by_cases he : x.k = text.length
  · have hd : text.drop x.k = [] := by rw [he]; exact List.drop_length
    rw [hd] at hP
    cases x with
    | none k n τT =>
      have hP : parseT text = parseGo 1 [] [] ((n : Int) + 1) := hP
      have he : k = text.length := he
      subst he
      refine rZ ?_ 2; refine aoR fun _ => ?_
      refine rZ ?_ 2
      apply vS; exact rfl; exact rfl; exact rfl
      refine rZ ?_ 2; rotate_left
      refine uA (uK rfl (fun hx => by exfalso; have := of_decide_eq_true hx; omega) (fun _ => ?_))
      refine rZ ?_ 2; rotate_left
      refine uA ?_
      refine wM 900 τT 1 [] (tmL [(2, .lo 2 τ2 1 0 0), (5, .lo 5 τ5 1 0 0)]) (stL [(2, (τ2, ⟨1, [[.d (.c (.slice none 0 0))]]⟩)), (5, (τ5, ⟨1, [[.d (.sl 1 [])]]⟩))]) rfl (by repeat' (first | exact xV | exact xB | exact xR | exact xQ | refine vK rfl (.same _) ?_ | refine vK rfl (vL (by simp)) ?_ | refine uX (by decide) rfl (FrozR.same _) ?_ | refine uX (by decide) rfl ?_ ?_ | refine vG xC ?_ | refine vG ?_ ?_ | refine uT (.same _) ?_ | refine uT (vL (by first | rfl | simp)) ?_ | refine uT (.nil _) ?_)) (by repeat' (first | exact xV | exact xB | exact xR | exact xQ | refine vK rfl (.same _) ?_ | refine vK rfl (vL (by simp)) ?_ | refine uX (by decide) rfl (FrozR.same _) ?_ | refine uX (by decide) rfl ?_ ?_ | refine vG xC ?_ | refine vG ?_ ?_ | refine uT (.same _) ?_ | refine uT (vL (by first | rfl | simp)) ?_ | refine uT (.nil _) ?_)) ?_
      have hc := oR ([])
      have hE : parseT text = if checkT ([]) = 0 then ([], 0, 0) else ([], 0, 190) := by rw [hP]; exact mY
      by_cases h0 : checkT ([]) = 0
      · rw [if_pos h0] at hE
        rw [h0] at hc
        refine rZ ?_; refine aoR fun _ => ?_
        refine rZ ?_
        apply uE; exact rfl; exact .fn _ _ _; exact rfl; exact hc
        refine rZ ?_; refine cnd ?_ ?_
        refine zT (fun _ => ?_); (try omega)
        refine aG (fun _ => ?_); (try omega)
        refine rZ ?_; refine aoR fun _ => ?_
        refine rZ ?_; rotate_left
        all_goals first | exact yT rfl rfl rfl rfl (by rw [hE]; rfl) | skip
      · rw [if_neg h0] at hE
        refine rZ ?_; refine aoR fun _ => ?_
        refine rZ ?_
        apply uE; exact rfl; exact .fn _ _ _; exact rfl; exact hc
        refine rZ ?_; refine cnd ?_ ?_
        refine zT (fun _ => ?_); (try omega)
        refine rZ ?_; refine aoR fun _ => ?_
        refine rZ ?_; rotate_left
        refine aG (fun _ => ?_); (try omega)
        all_goals first | (exfalso; exact h0 (by assumption)) | exact yT rfl rfl rfl rfl (by rw [hE]; rfl)
    | some k n τT a l τL =>
      have hP : parseT text = parseGo 1 [] (a ++ [l]) ((n : Int) + 1) := hP
      have he : k = text.length := he
      subst he
      refine rZ ?_ 2; refine aoR fun _ => ?_
      refine rZ ?_ 2
      apply vS; exact rfl; exact rfl; exact rfl
      refine rZ ?_ 2; rotate_left
      refine uA (uK rfl (fun hx => by exfalso; have := of_decide_eq_true hx; omega) (fun _ => ?_))
      refine rZ ?_ 2; rotate_left
      refine uA ?_
      refine wM 901 τL 10 (l.map stTV) (tmL [(2, .lo 2 τ2 1 0 0), (5, .lo 5 τ5 1 0 0)]) (stL [(2, (τ2, ⟨1, [[.d (.c (.slice none 0 0))]]⟩)), (5, (τ5, ⟨1, [[.os 900 τT 1 (a.length + 1)]]⟩)), (900, (τT, ⟨1, (a ++ [l]).map thO⟩))]) (by show some (τL, (⟨10, l.map stO⟩ : Row)) = _; rw [iH]) (by repeat' (first | exact xV | exact xB | exact xR | exact xQ | refine vK rfl (.same _) ?_ | refine vK rfl (vL (by simp)) ?_ | refine uX (by decide) rfl (FrozR.same _) ?_ | refine uX (by decide) rfl ?_ ?_ | refine vG xC ?_ | refine vG ?_ ?_ | refine uT (.same _) ?_ | refine uT (vL (by first | rfl | simp)) ?_ | refine uT (.nil _) ?_)) (uX (by decide) rfl (FrozR.same _) (uX (by decide) rfl (FrozR.same _) (uX (by decide) rfl iU xB))) ?_
      refine wM 900 τT 1 ((a ++ [l]).map fun l => [stsTV l]) (tmL [(2, .lo 2 τ2 1 0 0), (5, .lo 5 τ5 1 0 0)]) (stL [(2, (τ2, ⟨1, [[.d (.c (.slice none 0 0))]]⟩)), (5, (τ5, ⟨1, [[.d (.sl 1 ((a ++ [l]).map fun l => [stsTV l]))]]⟩))]) (by show some (τT, (⟨1, (a ++ [l]).map thO⟩ : Row)) = _; rw [rE]) (by repeat' (first | exact xV | exact xB | exact xR | exact xQ | refine vK rfl (.same _) ?_ | refine vK rfl (vL (by simp)) ?_ | refine uX (by decide) rfl (FrozR.same _) ?_ | refine uX (by decide) rfl ?_ ?_ | refine vG xC ?_ | refine vG ?_ ?_ | refine uT (.same _) ?_ | refine uT (vL (by first | rfl | simp)) ?_ | refine uT (.nil _) ?_)) (by repeat' (first | exact xV | exact xB | exact xR | exact xQ | refine vK rfl (.same _) ?_ | refine vK rfl (vL (by simp)) ?_ | refine uX (by decide) rfl (FrozR.same _) ?_ | refine uX (by decide) rfl ?_ ?_ | refine vG xC ?_ | refine vG ?_ ?_ | refine uT (.same _) ?_ | refine uT (vL (by first | rfl | simp)) ?_ | refine uT (.nil _) ?_)) ?_
      have hc := oR (a ++ [l])
      have hE : parseT text = if checkT (a ++ [l]) = 0 then (a ++ [l], 0, 0) else ([], 0, 190) := by rw [hP]; exact mY
      by_cases h0 : checkT (a ++ [l]) = 0
      · rw [if_pos h0] at hE
        rw [h0] at hc
        refine rZ ?_; refine aoR fun _ => ?_
        refine rZ ?_
        apply uE; exact rfl; exact .fn _ _ _; exact rfl; exact hc
        refine rZ ?_; refine cnd ?_ ?_
        refine zT (fun _ => ?_); (try omega)
        refine aG (fun _ => ?_); (try omega)
        refine rZ ?_; refine aoR fun _ => ?_
        refine rZ ?_; rotate_left
        all_goals first | exact yT rfl rfl rfl rfl (by rw [hE]; rfl) | skip
      · rw [if_neg h0] at hE
        refine rZ ?_; refine aoR fun _ => ?_
        refine rZ ?_
        apply uE; exact rfl; exact .fn _ _ _; exact rfl; exact hc
        refine rZ ?_; refine cnd ?_ ?_
        refine zT (fun _ => ?_); (try omega)
        refine rZ ?_; refine aoR fun _ => ?_
        refine rZ ?_; rotate_left
        refine aG (fun _ => ?_); (try omega)
        all_goals first | (exfalso; exact h0 (by assumption)) | exact yT rfl rfl rfl rfl (by rw [hE]; rfl)
  · refine rZ ?_ 2
    refine aoR fun _ => ?_; refine rZ ?_ 2
    apply vS; exact rfl; exact rfl; exact rfl
    refine rZ ?_ 2; rotate_left
    refine uA (uK rfl (fun _ => vM (uA ?_)) (fun hx => by exfalso; have := of_decide_eq_false hx; omega))
    refine rZ ?_ 2; refine aoR fun _ => ?_
    refine rZ ?_ 2; rotate_left
    refine uA ?_; refine rZ ?_ 2; refine aoR fun _ => ?_
    refine rZ ?_ 2; rotate_left
    refine uA ?_
    obtain ⟨⟨w, rest, whole⟩, hc⟩ : ∃ c, c = cutC 10 (text.drop x.k) := ⟨_, rfl⟩
    obtain ⟨f1, f2, f3, f4, f5⟩ := cut_at 10 hk hc
    refine uR (X := Unit) (fun _ => tmL [(0, .bs text), (2, .lo 2 τ2 1 0 0), (5, .lo 5 τ5 1 0 0), (6, .int .i64 x.k), (7, .int .i64 ((x.n : Int) + 1)), (8, .int .i64 ((x.k + w.length : Nat) : Int))]) (fun _ => stL ((2, (τ2, ⟨1, [[.d (.c (.slice none 0 0))]]⟩)) :: x.rows τ5)) ?_ fun _ => ?_
    · refine wH ?_
      refine vB (X := Nat) (fun j => tmL [(0, .bs text), (2, .lo 2 τ2 1 0 0), (5, .lo 5 τ5 1 0 0), (6, .int .i64 x.k), (7, .int .i64 ((x.n : Int) + 1)), (8, .int .i64 ((x.k + j : Nat) : Int))]) (fun _ => stL ((2, (τ2, ⟨1, [[.d (.c (.slice none 0 0))]]⟩)) :: x.rows τ5)) (fun j => j ≤ w.length) (fun j => w.length - j) 0 (Nat.zero_le _) leP (fun _ _ h => h) ?_
      rintro j hj
      by_cases hj' : j = w.length
      · subst hj'
        cases whole with
        | false =>
          have f5 := f5 rfl
          refine rZ ?_ 1; refine aoR fun _ => ?_
          refine rZ ?_ 1
          apply vS; exact rfl; exact rfl; exact rfl
          refine rZ ?_ 1
          apply vE; exact rfl; exact rfl
          refine uF fun _ => ?_; try omega
          refine uG fun _ => ?_; try omega
          apply vE; exact rfl; exact rfl
          exact vN
          refine uV ?_
          apply vE; exact rfl; exact rfl
          exact vN
          refine uV ?_
          apply vE; exact rfl; exact rfl
          exact vN
          refine uV ?_; refine rZ ?_ 1; refine cnd ?_ ?_
          exact vN
          refine uV ?_; refine rZ ?_ 1; rotate_left
          all_goals first | (exfalso; omega) | exact wA () leP (fun _ _ h => h)
        | true =>
          obtain ⟨f6, f7, f8⟩ := f4 rfl
          have f7 : ((text.getD (((x.k + w.length : Nat) : Int)).toNat 0).toNat : Int) = 10 := getD_ten f7
          refine rZ ?_ 1; refine aoR fun _ => ?_
          refine rZ ?_ 1
          apply vS; exact rfl; exact rfl; exact rfl
          refine rZ ?_ 1
          apply vE; exact rfl; exact rfl
          refine uF fun _ => ?_; try omega
          refine rZ ?_ 1
          apply vE; exact rfl; exact rfl
          refine uH ?_; refine rZ ?_ 1
          apply vE; exact rfl; exact rfl
          refine uH ?_
          (apply gA; exact rfl; exact rfl; exact rfl; exact rfl; exact ⟨by omega, by omega⟩)
          apply vE; exact rfl; exact rfl
          refine uH ?_; refine rZ ?_ 1; refine cnd ?_ ?_; refine wT ?_; refine uH ?_
          refine zT (fun _ => ?_); (try omega)
          refine wU (fun hc_ => ?_); (try simp only [nrm] at hc_)
          refine rZ ?_ 1; rotate_left
          iterate 3 exact uI
          refine uG fun _ => ?_; try omega
          all_goals first | (exfalso; omega) | exact wA () leP (fun _ _ h => h)
      · have f9 : ¬ ((text.getD (((x.k + j : Nat) : Int)).toNat 0).toNat : Int) = 10 := getD_nten (f3 j (by omega))
        refine rZ ?_ 1; refine aoR fun _ => ?_
        refine rZ ?_ 1
        apply vS; exact rfl; exact rfl; exact rfl
        refine rZ ?_ 1
        apply vE; exact rfl; exact rfl
        refine uF fun _ => ?_; try omega
        refine rZ ?_ 1
        apply vE; exact rfl; exact rfl
        refine uH ?_; refine rZ ?_ 1
        apply vE; exact rfl; exact rfl
        refine uH ?_
        (apply gA; exact rfl; exact rfl; exact rfl; exact rfl; exact ⟨by omega, by omega⟩)
        apply vE; exact rfl; exact rfl
        refine uH ?_; refine rZ ?_ 1; refine cnd ?_ ?_; refine wT ?_; refine uH ?_
        refine zT (fun _ => ?_); (try omega)
        refine rZ ?_ 1; refine aoR fun _ => ?_
        refine rZ ?_ 1; rotate_left
        refine wU (fun hc_ => ?_); (try simp only [nrm] at hc_)
        refine rZ ?_ 1; rotate_left
        iterate 3 exact uI
        refine uG fun _ => ?_; try omega
        all_goals first | (exfalso; exact f9 (hc_.resolve_left (by decide))) | (exfalso; omega) | exact uU (j + 1) (show j + 1 ≤ w.length by omega) (show w.length - (j + 1) < w.length - j by omega) (uL rfl (uL rfl (uL rfl (uL rfl (uL rfl (uO rfl (by show ((x.k + j : Nat) : Int) + 1 = ((x.k + (j + 1) : Nat) : Int); omega) (vW _))))))) (fun _ _ h => h)
    · have hk' : x.k < text.length := by omega
      have hne : text.drop x.k ≠ [] := fun e => by
        have := congrArg List.length e
        rw [List.length_drop] at this
        simp at this
        omega
      have hw : w.length ≤ 65535 := by omega
      have hs : (text.drop x.k).take (x.k + w.length - x.k) = w := by rw [Nat.add_sub_cancel_left]; exact f2
      have c2 : Pure E.P 46 [.bs ((text.drop x.k).take (x.k + w.length - x.k))] (.tu [stOV (rStep w).1, .bool (rStep w).2]) := by rw [hs]; exact rstep_p w hw
      have hst := rStep_eq w
      cases x with
      | none k n τT =>
        have hP : parseT text = parseGo ((text.drop k).length + 1) (text.drop k) [] ((n : Int) + 1) := hP
        have hk' : k < text.length := hk'
        have hn : n ≤ k := hn
        have f1 : k + w.length ≤ text.length := f1
        have hc : (w, rest, whole) = cutC 10 (text.drop k) := hc
        have hne : text.drop k ≠ [] := hne
        have hs : (text.drop k).take (k + w.length - k) = w := hs
        by_cases hh : whole = true ∧ w = wHart
        · have k81 : KeyOf 81 900 := ⟨trivial⟩
          have hq := iK (t := []) (n := (n : Int) + 1) hne ⟨by rw [← hc]; exact hh.1, by rw [← hc]; exact hh.2, by decide⟩
          rw [← hc] at hq
          obtain ⟨rfl, rfl⟩ := hh
          obtain ⟨f6, f7, f8⟩ := f4 rfl
          have f6 : k + wHart.length < text.length := f6
          have f8 : rest = text.drop (k + wHart.length + 1) := f8
          refine rZ ?_ 2; refine aoR fun _ => ?_
          refine rZ ?_ 2; rotate_left
          refine uA ?_; refine rZ ?_ 2; refine aoR fun _ => ?_
          refine rZ ?_ 2
          (apply wN; exact rfl; exact rfl; exact rfl; (exact ⟨_, _, rfl, by omega, rfl⟩); (exact ⟨_, _, rfl, by omega, rfl⟩); omega; omega)
          apply uE; exact rfl; exact .fn _ _ _; exact rfl; exact c2
          refine rZ ?_ 2; rotate_left
          refine uA ?_; refine rZ ?_ 2; refine aoR fun _ => ?_
          refine rZ ?_ 2
          apply vS; exact rfl; exact rfl; exact rfl
          refine rZ ?_ 2; rotate_left
          refine uA (uK rfl (fun hx => by exfalso; have hx : decide (((k + wHart.length : Nat) : Int) = (text.length : Int)) = true := hx; have := of_decide_eq_true hx; omega) (fun _ => ?_))
          refine rZ ?_ 2; refine aoR fun _ => ?_
          refine rZ ?_ 2
          (apply wN; exact rfl; exact rfl; exact rfl; (exact ⟨_, _, rfl, by omega, rfl⟩); (exact ⟨_, _, rfl, by omega, rfl⟩); omega; omega)
          apply xG; exact rfl; exact rfl
          refine rZ ?_ 2; rotate_left
          refine uA (uK rfl (fun _ => ?_) (fun hx => absurd hx (by show ¬ decide ((text.drop k).take (k + wHart.length - k) = wHart) = false; rw [hs]; decide)))
          refine rZ ?_ 2; refine aoR fun _ => ?_
          refine rZ ?_ 2; rotate_left
          refine uA (uK rfl (fun hx => absurd hx (by decide)) (fun _ => vM (uA ?_)))
          refine aoR fun _ => ?_; refine rZ ?_ 2
          rotate_left; refine uA ?_
          refine bI (kx := 900) (i := 0) (o := 0) 901 10 rfl rfl rfl (by decide) fun τL => ?_
          refine aoR fun _ => ?_; refine rZ ?_ 2
          rotate_left
          refine uA (uU (.some (k + wHart.length + 1) (n + 1) (_, 3) [] [] τL) ⟨by show parseT text = parseGo ((text.drop (k + wHart.length + 1)).length + 1) (text.drop (k + wHart.length + 1)) _ _; rw [← f8]; exact hP.trans hq, by show k + wHart.length + 1 ≤ _; omega, by show n + 1 ≤ k + wHart.length + 1; omega, (by decide : 1 ≤ 4), fun l h => ?_⟩ (by show text.length - (k + wHart.length + 1) < text.length - k; omega) (uL rfl (uL rfl (uL rfl (uO rfl (by show ((k + wHart.length : Nat) : Int) + 1 = ((k + wHart.length + 1 : Nat) : Int); omega) (uO rfl (by show (n : Int) + 1 = ((n + 1 : Nat) : Int); omega) (vW _)))))) leP)
          rcases List.mem_singleton.1 h with rfl
          exact Nat.zero_le _
        · have hE : parseT text = ([], (n : Int) + 1, 190) := hP.trans (mZ hne (fun h => hh (by rw [← hc] at h; exact ⟨h.1, h.2.1⟩)) (.inr (.inr (.inl rfl))))
          refine rZ ?_ 2; refine aoR fun _ => ?_
          refine rZ ?_ 2; rotate_left
          refine uA ?_; refine rZ ?_ 2; refine aoR fun _ => ?_
          refine rZ ?_ 2
          (apply wN; exact rfl; exact rfl; exact rfl; (exact ⟨_, _, rfl, by omega, rfl⟩); (exact ⟨_, _, rfl, by omega, rfl⟩); omega; omega)
          apply uE; exact rfl; exact .fn _ _ _; exact rfl; exact c2
          refine rZ ?_ 2; rotate_left
          refine uA ?_; refine rZ ?_ 2; refine aoR fun _ => ?_
          refine rZ ?_ 2
          apply vS; exact rfl; exact rfl; exact rfl
          refine rZ ?_ 2; rotate_left
          refine uA (uK rfl (fun hx => ?_) (fun hx => ?_))
          · refine rZ ?_
            refine aoR fun _ => ?_; refine rZ ?_
            rotate_left
            all_goals exact yT rfl rfl rfl rfl (by rw [hE]; rfl)
          · have hwh : whole = true := by
              cases whole with
              | true => rfl
              | false =>
                have e : decide (((k + w.length : Nat) : Int) = (text.length : Int)) = false := hx
                have := of_decide_eq_false e
                have f5 : k + w.length = text.length := f5 rfl
                omega
            refine rZ ?_ 2; refine aoR fun _ => ?_
            refine rZ ?_ 2
            (apply wN; exact rfl; exact rfl; exact rfl; (exact ⟨_, _, rfl, by omega, rfl⟩); (exact ⟨_, _, rfl, by omega, rfl⟩); omega; omega)
            apply xG; exact rfl; exact rfl
            refine rZ ?_ 2; rotate_left
            refine uA (uK rfl (fun hx => ?_) (fun hx => ?_))
            · exfalso
              have e : decide ((text.drop k).take (k + w.length - k) = wHart) = true := hx
              rw [hs] at e
              exact hh ⟨hwh, of_decide_eq_true e⟩
            · refine rZ ?_ 1
              refine aoR fun _ => ?_; refine rZ ?_ 1
              apply uC; exact rfl; exact rfl
              refine yS ?_
              refine vV (fun _ => ?_)
              refine rZ ?_ 1
              apply uC; exact rfl; exact rfl
              refine uV ?_; refine rZ ?_ 1
              apply uC; exact rfl; exact rfl
              refine zS ?_; refine uV ?_
              refine uG fun _ => ?_; try omega
              refine zR (fun hc_ => ?_); (try simp only [nrm] at hc_)
              apply uC; exact rfl; exact rfl
              exact uI
              refine uH ?_
              apply uC; exact rfl; exact rfl
              exact uI
              refine uH ?_
              apply uC; exact rfl; exact rfl
              exact uI
              refine uH ?_
              apply uC; exact rfl; exact rfl
              exact uI
              refine uH ?_
              apply uC; exact rfl; exact rfl
              exact uI
              refine uH ?_
              apply uC; exact rfl; exact rfl
              exact uI
              refine uH ?_
              apply uC; exact rfl; exact rfl
              exact uI
              refine uH ?_; refine rZ ?_ 1; refine cnd ?_ ?_; refine uH ?_; refine rZ ?_ 1; refine aoR fun _ => ?_
              refine rZ ?_ 1; rotate_left
              exact uI
              exact vN
              refine zU ?_
              refine vY (fun _ => ?_)
              apply uC; exact rfl; exact rfl
              exact uI
              refine uH ?_; refine rZ ?_ 1
              apply uC; exact rfl; exact rfl
              exact uI
              refine uH ?_
              apply uC; exact rfl; exact rfl
              exact uI
              refine uH ?_
              apply uC; exact rfl; exact rfl
              exact uI
              refine uH ?_
              apply uC; exact rfl; exact rfl
              exact uI
              refine uH ?_
              apply uC; exact rfl; exact rfl
              exact uI
              refine uH ?_
              apply uC; exact rfl; exact rfl
              exact uI
              refine uH ?_
              apply uC; exact rfl; exact rfl
              exact uI
              refine uH ?_
              apply uC; exact rfl; exact rfl
              exact uI
              refine uH ?_; refine rZ ?_ 1; refine cnd ?_ ?_; refine uH ?_; refine rZ ?_ 1; refine aoR fun _ => ?_
              refine rZ ?_ 1; rotate_left
              exact uI
              all_goals first | (exfalso; omega) | exact yT rfl rfl rfl rfl (by rw [hE]; rfl) | skip
      | some k n τT a l τL =>
        have hP : parseT text = parseGo ((text.drop k).length + 1) (text.drop k) (a ++ [l]) ((n : Int) + 1) := hP
        have hk' : k < text.length := hk'
        have hn : n ≤ k := hn
        have f1 : k + w.length ≤ text.length := f1
        have hc : (w, rest, whole) = cutC 10 (text.drop k) := hc
        have hne : text.drop k ≠ [] := hne
        have hs : (text.drop k).take (k + w.length - k) = w := hs
        have ha : a.length + 1 ≤ 4 := by
          have h : (a ++ [l]).length ≤ 4 := h4
          rwa [List.length_append] at h
        have hl16 : l.length ≤ 16 := h16 l (by show l ∈ a ++ [l]; simp)
        by_cases hh : whole = true ∧ w = wHart ∧ a.length + 1 < 4
        · have k81 : KeyOf 81 900 := ⟨trivial⟩
          have hq := iK (t := a ++ [l]) (n := (n : Int) + 1) hne ⟨by rw [← hc]; exact hh.1, by rw [← hc]; exact hh.2.1, by rw [List.length_append]; exact hh.2.2⟩
          rw [← hc] at hq
          obtain ⟨rfl, rfl, h4'⟩ := hh
          obtain ⟨f6, f7, f8⟩ := f4 rfl
          have f6 : k + wHart.length < text.length := f6
          have f8 : rest = text.drop (k + wHart.length + 1) := f8
          refine rZ ?_ 2; refine aoR fun _ => ?_
          refine rZ ?_ 2; rotate_left
          refine uA ?_; refine rZ ?_ 2; refine aoR fun _ => ?_
          refine rZ ?_ 2
          (apply wN; exact rfl; exact rfl; exact rfl; (exact ⟨_, _, rfl, by omega, rfl⟩); (exact ⟨_, _, rfl, by omega, rfl⟩); omega; omega)
          apply uE; exact rfl; exact .fn _ _ _; exact rfl; exact c2
          refine rZ ?_ 2; rotate_left
          refine uA ?_; refine rZ ?_ 2; refine aoR fun _ => ?_
          refine rZ ?_ 2
          apply vS; exact rfl; exact rfl; exact rfl
          refine rZ ?_ 2; rotate_left
          refine uA (uK rfl (fun hx => by exfalso; have hx : decide (((k + wHart.length : Nat) : Int) = (text.length : Int)) = true := hx; have := of_decide_eq_true hx; omega) (fun _ => ?_))
          refine rZ ?_ 2; refine aoR fun _ => ?_
          refine rZ ?_ 2
          (apply wN; exact rfl; exact rfl; exact rfl; (exact ⟨_, _, rfl, by omega, rfl⟩); (exact ⟨_, _, rfl, by omega, rfl⟩); omega; omega)
          apply xG; exact rfl; exact rfl
          refine rZ ?_ 2; rotate_left
          refine uA (uK rfl (fun _ => ?_) (fun hx => absurd hx (by show ¬ decide ((text.drop k).take (k + wHart.length - k) = wHart) = false; rw [hs]; decide)))
          refine rZ ?_ 2; refine aoR fun _ => ?_
          refine rZ ?_ 2; rotate_left
          refine uA (uK rfl (fun hx => by exfalso; have hx : decide (((a.length + 1 : Nat) : Int) = 4) = true := hx; have := of_decide_eq_true hx; omega) (fun _ => vM (uA ?_)))
          refine wM 901 τL 10 (l.map stTV) (tmL [(0, .bs text), (2, .lo 2 τ2 1 0 0), (5, .lo 5 τ5 1 0 0), (6, .int .i64 k), (7, .int .i64 ((n : Int) + 1)), (8, .int .i64 ((k + wHart.length : Nat) : Int))]) (stL [(2, (τ2, ⟨1, [[.d (.c (.slice none 0 0))]]⟩)), (5, (τ5, ⟨1, [[.os 900 τT 1 (a.length + 1)]]⟩)), (900, (τT, ⟨1, (a ++ [l]).map thO⟩))]) (by show some (τL, (⟨10, l.map stO⟩ : Row)) = _; rw [iH]) (by repeat' (first | exact xV | exact xB | exact xR | exact xQ | refine vK rfl (.same _) ?_ | refine vK rfl (vL (by simp)) ?_ | refine uX (by decide) rfl (FrozR.same _) ?_ | refine uX (by decide) rfl ?_ ?_ | refine vG xC ?_ | refine vG ?_ ?_ | refine uT (.same _) ?_ | refine uT (vL (by first | rfl | simp)) ?_ | refine uT (.nil _) ?_)) (uX (by decide) rfl (FrozR.same _) (uX (by decide) rfl (FrozR.same _) (uX (by decide) rfl iU xB))) ?_
          refine aoR fun _ => ?_; refine rZ ?_ 2
          rotate_left; refine uA ?_
          refine bI (kx := 900) (q := 1) (i := (a ++ [l]).length) (o := 0) (rows := (a ++ [l]).map thO ++ [[.d (.c (.slice none 0 0))]]) (row := [.d (.c (.slice none 0 0))]) 901 10 rfl jX rfl (by decide) fun τL' => ?_
          refine aoR fun _ => ?_; refine rZ ?_ 2
          rotate_left
          refine uA (uU (.some (k + wHart.length + 1) (n + 1) (_, 3) (a ++ [l]) [] τL') ⟨by show parseT text = parseGo ((text.drop (k + wHart.length + 1)).length + 1) (text.drop (k + wHart.length + 1)) _ _; rw [← f8]; exact hP.trans hq, by show k + wHart.length + 1 ≤ _; omega, by show n + 1 ≤ k + wHart.length + 1; omega, by show (a ++ [l] ++ [[]]).length ≤ 4; rw [List.length_append, List.length_append]; exact h4', fun m h => ?_⟩ (by show text.length - (k + wHart.length + 1) < text.length - k; omega) (uL rfl (uL rfl (uL rfl (uO rfl (by show ((k + wHart.length : Nat) : Int) + 1 = ((k + wHart.length + 1 : Nat) : Int); omega) (uO rfl (by show (n : Int) + 1 = ((n + 1 : Nat) : Int); omega) (vW _)))))) (uY rfl (uP rfl (by show [[OV.os 900 _ 1 (((a ++ [l]).map thO).length + 1)]] = [[OV.os 900 _ 1 ((a ++ [l]).length + 1)]]; rw [List.length_map]) (uP rfl jW (uY rfl (uS _))))))
          rcases List.mem_append.1 h with h | h
          · exact h16 m h
          · rcases List.mem_singleton.1 h with rfl
            exact Nat.zero_le _
        · have hh' : ¬ ((cutC 10 (text.drop k)).2.2 = true ∧ (cutC 10 (text.drop k)).1 = wHart ∧ (a ++ [l]).length < 4) := fun h => hh (by
            rw [← hc] at h
            exact ⟨h.1, h.2.1, by have := h.2.2; rwa [List.length_append] at this⟩)
          have hsr : (stepR w).2 = (rStep w).2 ∧ ((rStep w).2 = true → (stepR w).1 = (rStep w).1) := by
            unfold stepR
            rw [hst]
            cases e : (rStep w).2 with
            | false => exact ⟨rfl, fun h => by cases h⟩
            | true => exact ⟨rfl, fun _ => rfl⟩
          have hEr : (whole = false ∨ (rStep w).2 = false ∨ l.length = 16) → parseT text = ([], (n : Int) + 1, 190) := fun h => hP.trans (mZ hne hh' (by
            rw [← hc]
            rcases h with h | h | h
            · exact .inl h
            · exact .inr (.inl (by rw [← h]; exact hsr.1))
            · exact .inr (.inr (.inr (by rw [fK]; exact h)))))
          have hGo : whole = true → (rStep w).2 = true → l.length ≠ 16 → parseT text = parseGo (rest.length + 1) rest (a ++ [l ++ [(rStep w).1]]) ((n : Int) + 1 + 1) := fun h1 h2 h3 => by
            have hq := uAV (t := a ++ [l]) (n := (n : Int) + 1) hne hh' (by rw [← hc]; exact h1) (by rw [← hc]; exact hsr.1.trans h2) (by simp) (by rw [fK]; exact h3)
            rw [← hc, mN] at hq
            rw [hP, hq, ← hsr.2 h2]
          refine rZ ?_ 2; refine aoR fun _ => ?_
          refine rZ ?_ 2; rotate_left
          refine uA ?_; refine rZ ?_ 2; refine aoR fun _ => ?_
          refine rZ ?_ 2
          (apply wN; exact rfl; exact rfl; exact rfl; (exact ⟨_, _, rfl, by omega, rfl⟩); (exact ⟨_, _, rfl, by omega, rfl⟩); omega; omega)
          apply uE; exact rfl; exact .fn _ _ _; exact rfl; exact c2
          refine rZ ?_ 2; rotate_left
          refine uA ?_
          rename_i v11
          refine rZ ?_ 2; refine aoR fun _ => ?_
          refine rZ ?_ 2
          apply vS; exact rfl; exact rfl; exact rfl
          refine rZ ?_ 2; rotate_left
          refine uA (uK rfl (fun hx => ?_) (fun hx => ?_))
          · have hE := hEr (.inl (by
              cases whole with
              | false => rfl
              | true =>
                obtain ⟨f6, f7, f8⟩ := f4 rfl
                have f6 : k + w.length < text.length := f6
                have e : decide (((k + w.length : Nat) : Int) = (text.length : Int)) = true := hx
                have := of_decide_eq_true e
                omega))
            refine rZ ?_; refine aoR fun _ => ?_
            refine rZ ?_; rotate_left
            all_goals exact yT rfl rfl rfl rfl (by rw [hE]; rfl)
          · have hwh : whole = true := by
              cases whole with
              | true => rfl
              | false =>
                have e : decide (((k + w.length : Nat) : Int) = (text.length : Int)) = false := hx
                have := of_decide_eq_false e
                have f5 : k + w.length = text.length := f5 rfl
                omega
            obtain ⟨f6, f7, f8⟩ := f4 hwh
            have f6 : k + w.length < text.length := f6
            have f8 : rest = text.drop (k + w.length + 1) := f8
            refine rZ ?_ 2; refine aoR fun _ => ?_
            refine rZ ?_ 2
            (apply wN; exact rfl; exact rfl; exact rfl; (exact ⟨_, _, rfl, by omega, rfl⟩); (exact ⟨_, _, rfl, by omega, rfl⟩); omega; omega)
            apply xG; exact rfl; exact rfl
            refine rZ ?_ 2; rotate_left
            refine uA (uK rfl (fun hx => ?_) (fun hx => ?_))
            · have e : decide ((text.drop k).take (k + w.length - k) = wHart) = true := hx
              rw [hs] at e
              have e := of_decide_eq_true e
              have h4' : a.length + 1 = 4 := by
                by_cases h : a.length + 1 < 4
                · exact absurd ⟨hwh, e, h⟩ hh
                · omega
              have hE := hEr (.inr (.inl (by rw [← hsr.1, e]; decide +kernel)))
              refine rZ ?_; refine aoR fun _ => ?_
              refine rZ ?_; refine cnd ?_ ?_
              refine uF fun _ => ?_; try omega
              refine rZ ?_; refine aoR fun _ => ?_
              refine rZ ?_; rotate_left
              refine uG fun _ => ?_; try omega
              all_goals first | (exfalso; omega) | exact yT rfl rfl rfl rfl (by rw [hE]; rfl)
            · have k59 : KeyOf 59 901 := ⟨trivial⟩
              refine rZ ?_ 1; refine aoR fun _ => ?_
              refine rZ ?_ 1
              apply uC; exact rfl; exact rfl
              refine yS ?_
              refine vV (fun _ => ?_)
              refine rZ ?_ 1
              apply uC; exact rfl; exact rfl
              refine uV ?_; refine rZ ?_ 1
              apply uC; exact rfl; exact rfl
              refine zS ?_; refine uV ?_
              refine uG fun _ => ?_; try omega
              refine rZ ?_ 1
              apply uC; exact rfl; exact rfl
              refine uV ?_; refine rZ ?_ 1
              apply uC; exact rfl; exact rfl
              refine uV ?_; refine rZ ?_ 1
              apply uC; exact rfl; exact rfl
              refine uV ?_; refine rZ ?_ 1
              apply uC; exact rfl; exact rfl
              refine uV ?_; refine rZ ?_ 1
              apply uC; exact rfl; exact rfl
              refine uV ?_
              ((first | first
                | (apply uE; exact rfl; exact .fn _ _ _; exact rfl; fail)
                | (apply vJ; exact rfl; exact .fn _ _ _; exact rfl; fail) | (first | (refine vI ?_ (by exact rfl) ?_; exact rfl) | (refine aI ?_ (by exact rfl) ?_; exact rfl)) | (first | (apply kX; (first | exact eH | exact gN); exact rfl) | (apply oA; (first | exact eH | exact gN); exact rfl)) | (first
                | (apply vF; exact rfl; exact rfl; (first | omega | ((simp only [List.length_append, List.length_cons, List.length_nil]); omega)))
                | (apply yX; exact rfl; exact rfl; (first | omega | ((simp only [List.length_append, List.length_cons, List.length_nil]); omega)))
                | (apply xG; exact rfl; exact rfl)
                | (apply qZ; exact rfl; exact rfl)
                | (apply cO; exact rfl; exact rfl)
                | (apply D_neqL; exact rfl; exact rfl)
                | (apply vS; exact rfl; exact rfl; exact rfl)
                | (apply qY; exact rfl; exact rfl; exact rfl)
                | (apply wN; exact rfl; exact rfl; exact rfl; (first | exact rfl | exact ⟨_, _, rfl, by omega, rfl⟩); (first | exact rfl | exact ⟨_, _, rfl, by omega, rfl⟩); (first | decide | omega); (first | decide | omega))
                | (apply gB; exact rfl; exact rfl; exact rfl; (first | exact rfl | exact ⟨_, _, rfl, by omega, rfl⟩); (first | exact rfl | exact ⟨_, _, rfl, by omega, rfl⟩); (first | decide | omega); (first | decide | omega))) | (first | (apply wD; exact rfl; exact rfl; exact rfl; exact rfl; exact wR (by omega); exact rfl) | (apply dR; exact rfl; exact rfl; exact rfl; exact rfl; exact wR (by omega); exact rfl) | (apply dQ; exact rfl; exact rfl; exact rfl; exact rfl; exact rfl; exact rfl; exact wR (by omega); exact Nat.le_of_ble_eq_true rfl) | (apply yB; exact rfl; exact rfl; exact rfl; exact rfl; exact rfl; exact rfl; exact wR (by omega); exact Nat.le_of_ble_eq_true rfl))))
              apply uC; exact rfl; exact rfl
              refine uV ?_; refine rZ ?_ 1
              apply uC; exact rfl; exact rfl
              refine uV ?_; refine rZ ?_ 1; refine cnd ?_ ?_
              refine zR (fun hc_ => ?_); (try simp only [nrm] at hc_)
              refine rZ ?_ 1; refine aoR fun _ => ?_
              refine rZ ?_ 1; rotate_left
              refine zS ?_; refine uV ?_
              refine uG fun _ => ?_; try omega
              rotate_left
              iterate 7 exact vN
              refine zR (fun hc_ => ?_); (try simp only [nrm] at hc_)
              apply uC; exact rfl; exact rfl
              exact uI
              refine uH ?_
              apply uC; exact rfl; exact rfl
              exact uI
              refine uH ?_
              apply uC; exact rfl; exact rfl
              exact uI
              refine uH ?_
              apply uC; exact rfl; exact rfl
              exact uI
              refine uH ?_
              apply uC; exact rfl; exact rfl
              exact uI
              refine uH ?_
              apply uC; exact rfl; exact rfl
              exact uI
              refine uH ?_
              apply uC; exact rfl; exact rfl
              exact uI
              refine uH ?_; refine rZ ?_ 1; refine cnd ?_ ?_; refine uH ?_; refine rZ ?_ 1; refine aoR fun _ => ?_
              refine rZ ?_ 1; rotate_left
              exact uI
              exact vN
              refine zU ?_
              refine vY (fun _ => ?_)
              apply uC; exact rfl; exact rfl
              exact uI
              refine uH ?_; refine rZ ?_ 1
              apply uC; exact rfl; exact rfl
              exact uI
              refine uH ?_
              apply uC; exact rfl; exact rfl
              exact uI
              refine uH ?_
              apply uC; exact rfl; exact rfl
              exact uI
              refine uH ?_
              apply uC; exact rfl; exact rfl
              exact uI
              refine uH ?_
              apply uC; exact rfl; exact rfl
              exact uI
              refine uH ?_
              apply uC; exact rfl; exact rfl
              exact uI
              refine uH ?_
              apply uC; exact rfl; exact rfl
              exact uI
              refine uH ?_
              apply uC; exact rfl; exact rfl
              exact uI
              refine uH ?_; refine rZ ?_ 1; refine cnd ?_ ?_; refine uH ?_; refine rZ ?_ 1; refine aoR fun _ => ?_
              refine rZ ?_ 1; rotate_left
              exact uI
              all_goals first | (exfalso; omega) | (exfalso; have h : ((a.length + 1 : Nat) : Int) = 0 := hc_.resolve_left (by decide); omega) | exact yT rfl rfl rfl rfl (by rw [hEr (.inr (.inr (by have h : (l.length : Int) = 16 := hc_.resolve_left (by decide); omega)))]; rfl) | exact yT rfl rfl rfl rfl (by rw [hEr (.inr (.inl (by assumption)))]; rfl) | exact yT rfl rfl rfl rfl (by rw [hEr (.inr (.inl (hc_.resolve_left (by decide))))]; rfl) | skip
              rename_i g2 g3 g4
              refine cI (tmL [(0, .bs text), (2, .lo 2 τ2 1 0 0), (5, .lo 5 τ5 1 0 0), (6, .int .i64 k), (7, .int .i64 ((n : Int) + 1)), (8, .int .i64 ((k + w.length : Nat) : Int)), (9, .int .i64 (a.length + 1 : Nat)), (10, .lo 10 (v11, 8) 10 0 0)]) (stL [(2, (τ2, ⟨1, [[.d (.c (.slice none 0 0))]]⟩)), (5, (τ5, ⟨1, [[.os 900 τT 1 (a.length + 1)]]⟩)), (900, (τT, ⟨1, a.map thO ++ [[.os 901 τL 10 l.length]]⟩)), (901, (τL, ⟨10, l.map stO⟩)), (10, ((v11, 8), ⟨10, [stO (rStep w).1]⟩))]) leP leP ?_
              refine uJ (E := E) ?_ (fun _ => ?_); exact rfl
              refine rZ ?_
              apply dR; exact rfl; exact rfl; exact rfl; exact rfl; exact wR (by omega); exact rfl
              refine rZ ?_
              apply yB; exact rfl; exact rfl; exact rfl; exact rfl; exact rfl; exact rfl; exact wR (by omega); exact Nat.le_of_ble_eq_true rfl
              refine rZ ?_; refine aoR fun _ => ?_
              refine rZ ?_; rotate_left
              have hn16 : ¬ l.length = 16 := fun h => g4 (by rw [h]; rfl)
              refine uU (.some (k + w.length + 1) (n + 1) τT a (l ++ [(rStep w).1]) (_, 12)) ⟨by show parseT text = parseGo ((text.drop (k + w.length + 1)).length + 1) (text.drop (k + w.length + 1)) _ _; rw [← f8]; exact hGo hwh g2 hn16, by show k + w.length + 1 ≤ _; omega, by show n + 1 ≤ k + w.length + 1; omega, by show (a ++ [l ++ [(rStep w).1]]).length ≤ 4; rw [List.length_append]; exact ha, fun m h => ?_⟩ (by show text.length - (k + w.length + 1) < text.length - k; omega) (uL rfl (uL rfl (uL rfl (uO rfl (by show ((k + w.length : Nat) : Int) + 1 = ((k + w.length + 1 : Nat) : Int); omega) (uO rfl (by show (n : Int) + 1 = ((n + 1 : Nat) : Int); omega) (vW _)))))) (uY rfl (uY rfl (uP rfl (lZ (a := a) (l := l) (s := (rStep w).1) (i := ((a.length + 1 : Nat) : Int) - 1) (by omega)) (uP rfl (by rw [List.map_append]; rfl) (uS _)))))
              rcases List.mem_append.1 h with h | h
              · exact h16 m (List.mem_append.2 (.inl h))
              · rcases List.mem_singleton.1 h with rfl
                rw [List.length_append]
                show l.length + 1 ≤ 16
                omega
end
section
open Go.Shelf Go.RowKit Go.Sort Go.Lib
end
section
open Go.Shelf Go.RowKit Go.Sort Go.Lib
def Lay9 (w : World) : Prop := KN (allM w)
theorem tY {f : FuncId} {args : List OV} {x : Value} (h : Pure Tryz.prog f args (.d (.c x))) {w : World} (hP : Lay9 w) {vs : List Value} (hv : RepOL (allG w hP) args vs) :
  Calls Tryz.prog f vs.toArray w fun e w' => e = .returned x ∧ Below w.heap.size w w' :=
 (h.2 (allG w hP) w vs 0 hv (WRel.all w hP 0)).mono fun e w' ⟨y, G', r, σ', h1, h2, h3, h4, h5⟩ => by
  subst h2
  rw [vA h4] at h1
  exact ⟨h1, ⟨h5.os, h5.tape, h5.output, h5.size, fun k hk => h5.keep k hk (fun e => e)⟩⟩
theorem allM_below {w w' : World} (hb : Below w.heap.size w w') : (allM w).le (allM w') := fun b o v h => by
 have h0 : w.cell? ⟨b, o, none⟩ = some v := h
 exact (hb.cell (p := ⟨b, o, none⟩) (World.block_lt_of_cell? w ⟨b, o, none⟩ h0)).trans h0
theorem Lay9.below {w w' : World} (h : Lay9 w) (hb : Below w.heap.size w w') : Lay9 w' := KN.mono h (allM_below hb)
def stV (s : Stp) : Value := .agg #[.int .i64 s.kind, .int .i64 s.reg, .int .i64 s.var, .int .u32 s.num, .int .i64 s.data, .int .i64 s.byr, .bool s.aq, .bool s.rl, .int .i64 s.pred, .int .i64 s.succ]
def StepsAt (w : World) (l : List Stp) (v : Value) : Prop := ∃ a c, v = .slice a l.length c ∧ (l = [] ∨ ∃ b off, a = some ⟨b, off, none⟩ ∧ b < w.heap.size ∧ ∀ k, k < l.length → ∀ o, o < 10 → w.cell? ⟨b, off + k * 10 + o, none⟩ = some (match stV (l.getD k default) with | .agg cs => cs.getD o undef | x => x))
def ThreadsAt (w : World) (t : Ts) (v : Value) : Prop := ∃ a c, v = .slice a t.length c ∧ (t = [] ∨ ∃ b off, a = some ⟨b, off, none⟩ ∧ b < w.heap.size ∧ ∀ i, i < t.length → ∃ v, w.cell? ⟨b, off + i, none⟩ = some v ∧ StepsAt w (t.getD i []) v)
theorem StepsAt.below {w w' : World} {l : List Stp} {v : Value} {B : Nat} (h : StepsAt w l v) (hB : w.heap.size ≤ B) (hb : Below B w w') : StepsAt w' l v := by
 obtain ⟨a, c, h1, h2⟩ := h
 refine ⟨a, c, h1, h2.imp id fun ⟨b, off, h3, h4, h5⟩ => ⟨b, off, h3, ?_, fun k hk o ho => ?_⟩⟩
 ·have := hb.size; omega
 ·rw [hb.cell (p := ⟨b, off + k * 10 + o, none⟩) (show b < B by omega)]; exact h5 k hk o ho
theorem ThreadsAt.below {w w' : World} {t : Ts} {v : Value} {B : Nat} (h : ThreadsAt w t v) (hB : w.heap.size ≤ B) (hb : Below B w w') : ThreadsAt w' t v := by
 obtain ⟨a, c, h1, h2⟩ := h
 refine ⟨a, c, h1, h2.imp id fun ⟨b, off, h3, h4, h5⟩ => ⟨b, off, h3, ?_, fun i hi => ?_⟩⟩
 ·have := hb.size; omega
 ·obtain ⟨v, h6, h7⟩ := h5 i hi
  exact ⟨v, by rw [hb.cell (p := ⟨b, off + i, none⟩) (show b < B by omega)]; exact h6, h7.below hB hb⟩
end
end Go.Proofs.YtjogffchdejabaaGreatDoor
