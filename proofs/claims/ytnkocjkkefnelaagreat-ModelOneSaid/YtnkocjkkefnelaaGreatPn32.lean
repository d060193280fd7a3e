/- Parts. -/
import Derived.Lib.AppendZerosOnto
import Derived.Lib.SliceRun
import Derived.Test.YtnkocjkkefnelaaGreatPn6
import Derived.Test.YtnkocjkkefnelaaGreatPn8
import Derived.Test.YtnkocjkkefnelaaGreatPn12
import Derived.Test.YtnkocjkkefnelaaGreatPn19
import Derived.Test.YtnkocjkkefnelaaGreatPn21
import Derived.Test.YtnkocjkkefnelaaGreatPn28
import Derived.Test.YtnkocjkkefnelaaGreatPn30
import Derived.Test.YtnkocjkkefnelaaGreatPn31
set_option linter.unusedVariables false
set_option linter.unusedSimpArgs false
set_option maxHeartbeats 4000000
set_option maxHeartbeats 4000000
set_option maxRecDepth 100000
namespace Go.Proofs.YtnkocjkkefnelaaGreat
open Go.RowKit Go.Maps
def JA (L : List (Int × Int)) (i nn : Nat) (D : DataW Unit) : Prop := nn ≤ i ∧ ∀ kl, has D kl = true ↔ ∃ p ∈ L.take i, kl = kpL p
noncomputable abbrev YA (L : List (Int × Int)) (g : Gh) (b : Nat) : YJ := mapY E.P 73 3 g b (JA L)
theorem JA.start (L : List (Int × Int)) : JA L 0 0 (.map []) := ⟨Nat.le_refl _, fun kl => by simp [Maps.has]⟩
theorem JA.step {L : List (Int × Int)} {i nn : Nat} {D : DataW Unit} (hm : IsMap D) (h : JA L i nn D) (hi : i < L.length) (d : DataW Unit) : JA L (i + 1) (nn + 1) (D.put (kpL (L.getD i default)) d) := by
 refine ⟨by have := h.1; omega, fun kl => ?_⟩
 rw [wL L default i hi]
 by_cases e : kl = kpL (L.getD i default)
 ·subst e
  rw [has_put_same hm (show WideAt.IsKeyLit (kpL _) from trivial)]
  simp
 ·rw [has_put_other e, h.2 kl]
  constructor
  ·rintro ⟨p, h1, h2⟩; exact ⟨p, by simp [h1], h2⟩
  ·rintro ⟨p, h1, h2⟩
   rcases List.mem_append.1 h1 with h1 | h1
   ·exact ⟨p, h1, h2⟩
   ·simp only [List.mem_singleton] at h1
    subst h1
    exact (e h2).elim
theorem mH {a : Int} (h1 : 0 ≤ a) (h2 : a < 65536) : (Lit.int .i64 a).wf = true := by
 simp only [Lit.wf, IntKind.min, IntKind.max, IntKind.signed, IntKind.bits, Bool.and_eq_true, decide_eq_true_eq, if_true]
 omega
theorem mY {p : Int × Int} (h1 : 0 ≤ p.1) (h2 : p.1 < 65536) (h3 : 0 ≤ p.2) (h4 : p.2 < 65536) : IsKeyV E.P 73 (.ag ((pairTV p).map .d)) (kpL p) := fun G u hu => by
 rw [RepO] at hu
 obtain ⟨vs, rfl, h⟩ := hu
 unfold pairTV at h
 simp only [List.map_cons, List.map_nil] at h
 rw [RepOL] at h
 obtain ⟨v1, us, e1, q1, h⟩ := h
 rw [RepOL] at h
 obtain ⟨v2, us2, e2, q2, h⟩ := h
 rw [RepOL] at h
 subst h e2
 rw [vO q1, vO q2] at e1
 have : vs = #[.int .i64 p.1, .int .i64 p.2] := by rw [← Array.toList_inj, e1]
 rw [this]
 exact pU (mH h1 h2) (mH h3 h4)
theorem qH (w : World) : (zeroValue 3).run E.P w = .ok (.int .i64 0) w := by kernel_rfl
set_option maxHeartbeats 4000000 in
theorem rF (L l : List (Int × Int)) (hsm : smallP L) (hL : L.length ≤ 65536) (i : Nat) (hl : ∀ j, j < l.length → L.getD (i + j) default = l.getD j default) (hil : i + l.length ≤ L.length) (g : Gh) (b : Nat) :
  FnY E.P 64 [.d (pairsTV l), .d (.pt [.c (.map (some b))] 0)] (YA L g b) i (i + l.length) [] (· = []) := by
 have f4 : Frozen 4 := ⟨trivial⟩
 refine xT Tryz.func64 (by decide) rfl Tryz.ntmps64 (Nat.le_of_ble_eq_true rfl) rfl ?_
 refine run ?_; refine aoR fun _ => ?_
 refine run ?_; rotate_left
 refine vJ (X := Nat) (fun k => tmL [(1, .d (.pt [.c (.map (some b))] 0)), (5, .d (pairsTV l)), (6, .int .i64 l.length), (7, .int .i64 k), (GS, .gh (i + k) (YA L g b))]) (fun _ => stL []) (fun k => k ≤ l.length) (fun k => l.length - k) 0 (Nat.zero_le _) leP leP ?_
 intro k hk
 by_cases hlt : k < l.length
 ·have hm : L.getD (i + k) default ∈ L := by
   rw [List.getD_eq_getElem?_getD, List.getElem?_eq_getElem (by omega)]; exact List.getElem_mem _
  have hp := hsm _ hm
  have he := hl k hlt
  have hkey : IsKeyV E.P 73 (.ag ((pairTV (l.getD k default)).map .d)) (kpL (L.getD (i + k) default)) := by
   rw [← he]; exact mY hp.1 hp.2.1 hp.2.2.1 hp.2.2.2
  refine run ?_; refine aoR fun _ => ?_
  refine run ?_; refine cnd ?_ ?_
  refine uN fun _ => ?_; try omega
  refine run ?_; refine aoR fun _ => ?_
  refine run ?_
  refine qB (d := 11) (KT := 73) (IT := 3) lJ Tryz.underlying92 Tryz.underlying3 qH rfl rfl rfl rfl rfl (by decide) (by decide) (by decide) rfl rfl hkey rfl (fun nn D c hm hJ => ⟨by have := hJ.1; unfold maxLen; omega, hJ.step hm (by omega) _⟩) ?_
  refine run ?_; refine aoR fun _ => ?_
  refine run ?_; rotate_left
  refine uR fun _ => ?_; try omega
  exact vQ (k + 1) (by omega) (by omega) leP leP
 ·refine run ?_
  refine aoR fun _ => ?_; refine run ?_
  refine cnd ?_ ?_
  refine uN fun _ => ?_; try omega
  refine uR fun _ => ?_; try omega
  refine run ?_; rotate_left
  have e : k = l.length := by omega
  subst e
  exact ⟨Or.inl rfl, rfl, [], rfl, wD _⟩
theorem enters_keysP : ∀ args w, (callFunc 96 args).run Tryz.prog w = .ok (.enter 96 args) w := enters_of Tryz.func96 (by kernel_rfl) rfl
theorem sortedKeys_m (L : List (Int × Int)) (hL : L.length ≤ 65536) (n : Nat) (f : Nat → Nat → Bool) (hn : n ≤ 65536) (hm : ∀ p, p ∈ L ↔ p ∈ refPairs n f) (g : Gh) (b : Nat) :
  FnM E.P 66 [.fn 96 [] [.d (.pt [.c (.map (some b))] 0)], .fn 68 [] []] ((YA L g b).J L.length) (fun r' _ => r' = .d (pairsTV (refPairs n f))) := by
 refine ⟨⟨_, Tryz.func66, by decide, rfl⟩, fun G w vs N hJ hv hw => ?_⟩
 obtain ⟨nn, D, ⟨hnn, hD⟩, hown⟩ := hJ
 rw [List.take_length] at hD
 rw [RepOL] at hv
 obtain ⟨x1, us, rfl, h1, hv⟩ := hv
 rw [RepOL] at hv
 obtain ⟨x2, us, rfl, h2, hv⟩ := hv
 rw [RepOL] at hv
 subst hv
 rw [RepO] at h2
 obtain ⟨f1, f2, rfl, hf1, hf2⟩ := h2
 rw [RepOL] at hf1 hf2
 have hf1 : f1 = #[] := Array.toList_eq_nil_iff.1 hf1
 have hf2 : f2 = #[] := Array.toList_eq_nil_iff.1 hf2
 subst hf1 hf2
 rw [RepO] at h1
 obtain ⟨v1, u1, rfl, hv1, hu1⟩ := h1
 rw [RepOL] at hv1
 have hv1 : v1 = #[] := Array.toList_eq_nil_iff.1 hv1
 subst hv1
 rw [RepOL] at hu1
 obtain ⟨pv, us, e1, hp, hu1⟩ := hu1
 rw [RepOL] at hu1
 subst hu1
 have e1 : u1 = #[pv] := by rw [← Array.toList_inj, e1]
 subst e1
 rw [RepO, Rep] at hp
 obtain ⟨Bm, of, rfl, hc⟩ := hp
 rw [RepC] at hc
 obtain ⟨⟨mv, hM, hmv⟩, _⟩ := hc
 rw [Rep] at hmv
 obtain ⟨rfl, _⟩ := hmv
 rw [Nat.add_zero]
 have hcell := hw.mem _ _ _ hM
 have hBm : Bm < w.heap.size := (cE hcell).2
 have hsm : ∀ kl, has D kl = true → ∃ x : P2, kl = kp x := fun kl hk => by
  obtain ⟨p, hp, rfl⟩ := (hD kl).1 hk
  obtain ⟨a, c, ha, hc, _, rfl⟩ := uP.1 ((hm p).1 hp)
  exact ⟨(⟨a, by omega⟩, ⟨c, by omega⟩), rfl⟩
 have hsize : Maps.size D ≤ 65536 := by have := hown.size_le; omega
 have hcall := callsIn_wide.1 (sortedFuncA_p 4 (by omega) _ #[.pointer (some ⟨Bm, of, none⟩)] enters_keysP KeepsWalks (KeysP D) (fun _ => True) (Maps.size D) (by omega) w walksK_t walksK_b (fun _ _ h _ => h.walks) (keysP_stops Fence.wide (fun _ => trivial) 1 rfl (by omega) Bm of b nn D hsm w hBm hcell hown))
 refine hcall.mono ?_
 rintro e w' ⟨v, ss, rfl, ⟨hnd, hk1, hk2⟩, _, hrow, hb⟩
 have hlist : (sortP ss).map toI = refPairs n f := by
  rw [eW]
  refine aS ?_ fun p => ?_
  ·refine List.pairwise_map.2 (hnd.imp fun {a c} h e => h ?_)
   unfold toI at e
   simp only [Prod.mk.injEq] at e
   exact Prod.ext (Fin.ext (by omega)) (Fin.ext (by omega))
  ·rw [← hm]
   constructor
   ·intro hp
    obtain ⟨x, hx, rfl⟩ := List.mem_map.1 hp
    obtain ⟨q, hq, e⟩ := (hD _).1 (hk1 x hx)
    obtain ⟨a, c, ha, hc, _, rfl⟩ := uP.1 ((hm q).1 hq)
    have : x = (⟨a, by omega⟩, ⟨c, by omega⟩) := oN e
    subst this
    exact hq
   ·intro hp
    obtain ⟨a, c, ha, hc, _, rfl⟩ := uP.1 ((hm p).1 hp)
    obtain ⟨x, hx, e⟩ := hk2 _ ((hD _).2 ⟨_, hp, rfl⟩)
    have : (⟨a, by omega⟩, ⟨c, by omega⟩) = x := oN e
    exact List.mem_map.2 ⟨x, hx, by rw [← this]; rfl⟩
 have hw1 := hw.below hb
 have hlen : (sortP ss).length = (refPairs n f).length := by rw [← hlist, List.length_map]
 rcases hrow.2 with ⟨rfl, hz⟩ | ⟨gb, cap, cur, rfl, hbase, hgb, r1, r2, r3, r4⟩
 ·refine ⟨_, G, _, Store.nil, rfl, rfl, .refl G, ?_, hw1⟩
  have : refPairs n f = [] := List.eq_nil_of_length_eq_zero (by omega)
  rw [RepO, this]
  unfold pairsTV
  rw [Rep]
  exact ⟨none, 0, rfl, Nat.le_refl _, Or.inl rfl⟩
 ·have hle : G.M.le (G.M.add gb cur) := fun b' o x hx => by
   have hlt := hw.mem_lt hx
   unfold Mem.add
   rw [if_neg (by omega)]
   exact hx
  have hcl : ∀ o x, cur[o]? = some x → w'.cell? ⟨gb, o, none⟩ = some x := fun o x hx => by
   simp [World.cell?, hgb, hx]
  refine ⟨_, ⟨G.M.add gb cur, G.μ⟩, _, Store.nil, rfl, rfl, ⟨hle, fun _ _ _ h => h⟩, ?_, hw1.grow hle (fun b' o x hx => ?_) (fun k τ r β o h => by cases h) (fun b' o x hx => ?_)⟩
  ·rw [RepO]
   unfold pairsTV
   rw [Rep]
   have hl2 : ((refPairs n f).map pairTV).length = (sortP ss).length := by rw [List.length_map, hlen]
   refine ⟨some ⟨gb, 0, none⟩, cap, by rw [hl2], by rw [hl2]; exact r1, Or.inr ⟨gb, 0, rfl, RepR.of_get fun i r hr => ?_⟩⟩
   rw [← hlist, List.map_map, List.getElem?_map] at hr
   obtain ⟨x, hx, rfl⟩ := Option.map_eq_some_iff.1 hr
   refine ⟨rfl, RepC.of_get fun o t ht => ?_⟩
   have hi : i < (sortP ss).length := (List.getElem?_eq_some_iff.1 hx).1
   have hxd : (sortP ss).getD i default = x := by rw [List.getD_eq_getElem?_getD, hx]; rfl
   have get : ∀ j, j < (sortP ss).length * 2 → cur[j]? = some ((encP ((sortP ss).getD (j / 2) default))[j % 2]!) := fun j hj => by
    rw [← zV _ j hj, ← r4, List.getElem?_take_of_lt hj, Array.getElem?_toList]
   have e0 := get (i * 2) (by omega)
   have e1 := get (i * 2 + 1) (by omega)
   rw [show i * 2 / 2 = i by omega, show i * 2 % 2 = 0 by omega, hxd] at e0
   rw [show (i * 2 + 1) / 2 = i by omega, show (i * 2 + 1) % 2 = 1 by omega, hxd] at e1
   have hM' : ∀ j x, cur[j]? = some x → (G.M.add gb cur) gb (0 + j) = some x := fun j x h => by
    unfold Mem.add; rw [if_pos rfl, Nat.zero_add]; exact h
   match o, ht with
   | 0, ht =>
    simp [pairTV, toI] at ht; subst ht
    exact ⟨_, hM' _ _ e0, by rw [Rep]; exact ⟨rfl, rfl⟩⟩
   | 1, ht =>
    simp [pairTV, toI] at ht; subst ht
    exact ⟨_, hM' _ _ e1, by rw [Rep]; exact ⟨rfl, rfl⟩⟩
  ·unfold Mem.add at hx
   split at hx
   ·rename_i e; subst e; exact hcl o x hx
   ·exact hw1.mem b' o x hx
  ·unfold Mem.add at hx
   split at hx
   ·rename_i e; subst e; exact Or.inr (Or.inl hbase)
   ·exact Or.inl hx
def hneB (x : Ex) (p : Int × Int) : Bool := !decide ((x.evs.getD p.1.toNat default).hart = (x.evs.getD p.2.toNat default).hart)
def arrL (x : Ex) : List (Int × Int) := ppoL x ++ coF x ++ frF x ++ (rfF x).filter (hneB x)
theorem sq_le {n : Nat} (h : n ≤ 64) : n * n ≤ 4096 := Nat.mul_le_mul h h
section
variable {x : Ex} (hx : x.rel)
include hx
theorem lU : (ppoL x).length ≤ 4096 ∧ (coF x).length ≤ 4096 ∧ (frF x).length ≤ 4096 ∧ (rfF x).length ≤ 4096 := by
 have h := sq_le hx.len
 have h1 := (show (refPairs _ _).length ≤ _ from wW x.evs.length (isPpo x) x.evs.length)
 have h2 := (show (refPairs _ _).length ≤ _ from wW x.evs.length (isCoB x) x.evs.length)
 have h3 := (show (refPairs _ _).length ≤ _ from wW x.evs.length (isFrB x) x.evs.length)
 have h4 := (show (refPairs _ _).length ≤ _ from wW x.evs.length (isRf x) x.evs.length)
 rw [gP hx, gN hx, aV hx.check]
 unfold ppoL
 omega
theorem arrL_len : (arrL x).length ≤ 65536 := by
 obtain ⟨h1, h2, h3, h4⟩ := lU hx
 have h5 := List.length_filter_le (hneB x) (rfF x)
 unfold arrL
 simp only [List.length_append]
 omega
theorem nC (p : Int × Int) : p ∈ arrL x ↔ p ∈ gloL x := by
 unfold arrL gloL ppoL
 rw [gP hx, gN hx, aV hx.check]
 simp only [List.mem_append, List.mem_filter, uP]
 constructor
 ·rintro (((⟨a, b, h1, h2, h3, rfl⟩ | ⟨a, b, h1, h2, h3, rfl⟩) | ⟨a, b, h1, h2, h3, rfl⟩) | ⟨⟨a, b, h1, h2, h3, rfl⟩, h4⟩) <;> refine ⟨a, b, h1, h2, ?_, rfl⟩ <;> unfold globB glob
  ·rw [h3]; rfl
  ·rw [h3]; simp
  ·rw [h3]; simp
  ·unfold hneB at h4
   simp only [Int.toNat_natCast] at h4
   rw [h3, h4]; simp
 ·rintro ⟨a, b, h1, h2, h3, rfl⟩
  unfold globB glob at h3
  simp only [Bool.or_eq_true, Bool.and_eq_true] at h3
  rcases h3 with ((h3 | h3) | h3) | ⟨h3, h4⟩
  ·exact Or.inl (Or.inl (Or.inl ⟨a, b, h1, h2, h3, rfl⟩))
  ·exact Or.inl (Or.inl (Or.inr ⟨a, b, h1, h2, h3, rfl⟩))
  ·exact Or.inl (Or.inr ⟨a, b, h1, h2, h3, rfl⟩)
  ·exact Or.inr ⟨⟨a, b, h1, h2, h3, rfl⟩, by unfold hneB; simpa using h4⟩
theorem arrL_small : smallP (arrL x) := fun p hp => by
 obtain ⟨a, b, h1, h2, _, rfl⟩ := uP.1 ((nC hx p).1 hp)
 have := hx.len
 dsimp only
 omega
end
theorem cW {L1 L2 : List (Int × Int)} {j : Nat} (h : j < L1.length) : (L1 ++ L2).getD j default = L1.getD j default := by
 rw [List.getD_eq_getElem?_getD, List.getElem?_append_left h, ← List.getD_eq_getElem?_getD]
theorem xS (L1 L2 : List (Int × Int)) (j : Nat) : (L1 ++ L2).getD (L1.length + j) default = L2.getD j default := by
 rw [List.getD_eq_getElem?_getD, List.getElem?_append_right (by omega), ← List.getD_eq_getElem?_getD]
 congr 1; omega
theorem bD {α : Type} (d : α) (f : α → Bool) : ∀ (l : List α) (k : Nat), k < l.length → f (l.getD k d) = true → (l.filter f).getD ((l.take k).filter f).length d = l.getD k d ∧ ((l.take k).filter f).length < (l.filter f).length
 | [], k, h, _ => by simp at h
 | a :: l, 0, _, h => by
  have h : f a = true := h
  simp [h]
 | a :: l, k + 1, hk, h => by
  obtain ⟨h1, h2⟩ := bD d f l k (by simpa using hk) (by simpa using h)
  cases ha : f a with
  | false => simp only [List.take_succ_cons, List.filter_cons, ha, Bool.false_eq_true, if_false, List.getD_cons_succ]; exact ⟨h1, h2⟩
  | true => simp only [List.take_succ_cons, List.filter_cons, ha, if_true, List.length_cons, List.getD_cons_succ]; exact ⟨h1, by omega⟩
theorem keysP_p (v : Value) (hv : v.oneCell' = true) : Pure E.P 67 [.d (.c v)] (.fn 96 [] [.d (.pt [.c v] 0)]) := by
 have f1 : Frozen 1 := ⟨trivial⟩
 refine fnA Tryz.func67 Tryz.ntmps67 ?_
 refine run ?_; refine aoR fun _ => ?_
 refine run ?_; refine aoR fun _ => ?_
 refine run ?_; rotate_left
 exact iR rfl rfl
set_option maxHeartbeats 4000000 in
theorem arrows_p (x : Ex) (hx : x.rel) : Pure E.P 43 [jdOV x (rfF x) (coF x) (frF x)] (.d (pairsTV (gloL x))) := by
 have f1 : Frozen 1 := ⟨trivial⟩
 have f3 : Frozen 3 := ⟨trivial⟩
 have f8 : Frozen 8 := ⟨trivial⟩
 have hn := hx.len
 obtain ⟨l1, l2, l3, l4⟩ := lU hx
 have hL := arrL_len hx
 have hS := arrL_small hx
 have hP : Pure E.P 65 [exOV x] (.tu [.d (pairsTV (ppoL x)), .int .i64 0]) := by
  have := Ppo_p x hx.fit
  unfold ppoT at this
  rw [if_neg (by simp [hx.check])] at this
  exact this
 obtain ⟨M, hM⟩ : ∃ M, (rfF x).filter (hneB x) = M := ⟨_, rfl⟩
 have hLL : (arrL x).length = (ppoL x).length + (coF x).length + (frF x).length + M.length := by unfold arrL; rw [hM]; simp only [List.length_append]
 have a1 : ∀ g b, FnY E.P 64 [.d (pairsTV (ppoL x)), .d (.pt [.c (.map (some b))] 0)] (YA (arrL x) g b) 0 (0 + (ppoL x).length) [] (· = []) := rF _ _ hS hL 0 (fun j hj => by
  unfold arrL; rw [Nat.zero_add, List.append_assoc, List.append_assoc, cW hj]) (by omega)
 have a2 : ∀ g b, FnY E.P 64 [.d (pairsTV (coF x)), .d (.pt [.c (.map (some b))] 0)] (YA (arrL x) g b) (0 + (ppoL x).length) (0 + (ppoL x).length + (coF x).length) [] (· = []) := rF _ _ hS hL _ (fun j hj => by
  unfold arrL; rw [Nat.zero_add, List.append_assoc, List.append_assoc, xS, cW hj]) (by omega)
 have a3 : ∀ g b, FnY E.P 64 [.d (pairsTV (frF x)), .d (.pt [.c (.map (some b))] 0)] (YA (arrL x) g b) (0 + (ppoL x).length + (coF x).length) (0 + (ppoL x).length + (coF x).length + (frF x).length) [] (· = []) := rF _ _ hS hL _ (fun j hj => by
  unfold arrL
  rw [Nat.zero_add, List.append_assoc, List.append_assoc, show (ppoL x).length + (coF x).length + j = (ppoL x).length + ((coF x).length + j) by omega, xS, xS, cW hj]) (by omega)
 have hK := sortedKeys_m (arrL x) hL x.evs.length (globB x) (by omega) (nC hx)
 refine fnA Tryz.func43 Tryz.ntmps43 ?_
 refine run ?_; refine aoR fun _ => ?_
 refine run ?_; refine aoR fun _ => ?_
 ((apply S_makeMap (JA (arrL x)) (JA.start _)); intro g b)
 refine run ?_; refine aoR fun _ => ?_
 refine run ?_; refine aoR fun _ => ?_
 refine run ?_
 apply uO; exact rfl; exact .fn _ _ _; exact rfl; exact hP
 refine run ?_; refine aoR fun _ => ?_
 refine run ?_
 apply lZ; exact rfl; (exact .fn _ _ _); exact rfl; exact rfl; (exact a1 _ _)
 refine run ?_; refine aoR fun _ => ?_
 refine run ?_
 apply lZ; exact rfl; (exact .fn _ _ _); exact rfl; exact rfl; (exact a2 _ _)
 refine run ?_; refine aoR fun _ => ?_
 refine run ?_
 apply lZ; exact rfl; (exact .fn _ _ _); exact rfl; exact rfl; (exact a3 _ _)
 refine run ?_; refine aoR fun _ => ?_
 refine run ?_; rotate_left
 refine vJ (X := Nat) (fun k => tmL [(1, .d (.pt (jdRow x (rfF x) (coF x) (frF x)) 0)), (3, .d (.pt [.c (.map (some b))] 0)), (29, .d (pairsTV (rfF x))), (30, .int .i64 (rfF x).length), (31, .int .i64 k), (GS, .gh (0 + (ppoL x).length + (coF x).length + (frF x).length + (((rfF x).take k).filter (hneB x)).length) (YA (arrL x) g b))]) (fun _ => stL []) (fun k => k ≤ (rfF x).length) (fun k => (rfF x).length - k) 0 (Nat.zero_le _) leP leP ?_
 intro k hk
 by_cases hlt : k < (rfF x).length
 ·obtain ⟨a, c, ha, hc, e0⟩ : ∃ a c : Nat, a < x.evs.length ∧ c < x.evs.length ∧ (rfF x).getD k default = ((a : Int), (c : Int)) := by
   have : (rfF x).getD k default ∈ refPairs x.evs.length (isRf x) := by
    rw [← aV hx.check, List.getD_eq_getElem?_getD, List.getElem?_eq_getElem hlt]; exact List.getElem_mem hlt
   obtain ⟨a, c, h1, h2, _, h3⟩ := uP.1 this
   exact ⟨a, c, h1, h2, h3⟩
  have e1 : ((rfF x).getD (k : Int).toNat default).1 = (a : Int) := by rw [Int.toNat_natCast, e0]
  have e2 : ((rfF x).getD (k : Int).toNat default).2 = (c : Int) := by rw [Int.toNat_natCast, e0]
  have b1 : 0 ≤ ((rfF x).getD (k : Int).toNat default).1 ∧ ((rfF x).getD (k : Int).toNat default).1 < x.evs.length := by omega
  have b2 : 0 ≤ ((rfF x).getD (k : Int).toNat default).2 ∧ ((rfF x).getD (k : Int).toNat default).2 < x.evs.length := by omega
  have htk := wL (rfF x) default k hlt
  have hkey : IsKeyV E.P 73 (.ag ((pairTV ((rfF x).getD k default)).map .d)) (kpL ((rfF x).getD k default)) := by
   rw [e0]; exact mY (by dsimp only; omega) (by dsimp only; omega) (by dsimp only; omega) (by dsimp only; omega)
  have hidx : hneB x ((rfF x).getD k default) = true → (arrL x).getD (0 + (ppoL x).length + (coF x).length + (frF x).length + (((rfF x).take k).filter (hneB x)).length) default = (rfF x).getD k default ∧ (((rfF x).take k).filter (hneB x)).length < M.length := fun h => by
   obtain ⟨q1, q2⟩ := bD default (hneB x) (rfF x) k hlt h
   rw [hM] at q1 q2
   refine ⟨?_, q2⟩
   rw [← q1]
   unfold arrL
   rw [hM, List.append_assoc, List.append_assoc, show 0 + (ppoL x).length + (coF x).length + (frF x).length + (((rfF x).take k).filter (hneB x)).length = (ppoL x).length + ((coF x).length + ((frF x).length + (((rfF x).take k).filter (hneB x)).length)) by omega, xS, xS, xS]
  by_cases hne : hneB x ((rfF x).getD k default) = true
  ·obtain ⟨i1, i2⟩ := hidx hne
   have hkey2 : IsKeyV E.P 73 (.ag ((pairTV ((rfF x).getD k default)).map .d)) (kpL ((arrL x).getD (0 + (ppoL x).length + (coF x).length + (frF x).length + (((rfF x).take k).filter (hneB x)).length) default)) := by rw [i1]; exact hkey
   have hcnt : (((rfF x).take (k + 1)).filter (hneB x)).length = (((rfF x).take k).filter (hneB x)).length + 1 := by
    rw [htk, List.filter_append, List.filter_cons, if_pos hne]; simp
   have hne' : ¬ (x.evs.getD ((rfF x).getD k default).1.toNat default).hart = (x.evs.getD ((rfF x).getD k default).2.toNat default).hart := by unfold hneB at hne; simpa using hne
   refine run ?_; refine aoR fun _ => ?_
   refine run ?_; refine cnd ?_ ?_
   refine uN fun _ => ?_; try omega
   refine run ?_; refine aoR fun _ => ?_
   refine run ?_
   refine vF (E := E) ?_ (fun _ => ?_); exact rfl
   refine run ?_; refine cnd ?_ ?_
   refine xG (fun _ => ?_); (try omega)
   refine qB (d := 52) (KT := 73) (IT := 3) lJ Tryz.underlying92 Tryz.underlying3 qH rfl rfl rfl rfl rfl (by decide) (by decide) (by decide) rfl rfl hkey2 rfl (fun nn D c hm hJ => ⟨by have := hJ.1; unfold maxLen; omega, hJ.step hm (by omega) _⟩) ?_
   refine run ?_; refine aoR fun _ => ?_
   refine run ?_; rotate_left
   refine xA (fun _ => ?_); (try omega)
   refine run ?_; refine aoR fun _ => ?_
   refine run ?_; rotate_left
   refine uR fun _ => ?_; try omega
   ·exact vQ (k + 1) (by omega) (by omega) (uL rfl (uL rfl (uL rfl (uL rfl (uL rfl (uL (by rw [hcnt]; rfl) (wO _))))))) leP
   ·rename_i hh _
    exact (hne' hh).elim
  ·have hcnt : (((rfF x).take (k + 1)).filter (hneB x)).length = (((rfF x).take k).filter (hneB x)).length := by
    rw [htk, List.filter_append, List.filter_cons, if_neg hne]; simp
   have hne' : (x.evs.getD ((rfF x).getD k default).1.toNat default).hart = (x.evs.getD ((rfF x).getD k default).2.toNat default).hart := by unfold hneB at hne; simpa using hne
   refine uK ?_; refine aoR fun _ => ?_
   refine uK ?_; refine cnd ?_ ?_
   refine uN fun _ => ?_; try omega
   refine uK ?_; refine aoR fun _ => ?_
   refine uK ?_
   refine vF (E := E) ?_ (fun _ => ?_); exact rfl
   refine uK ?_; refine cnd ?_ ?_
   refine xG (fun _ => ?_); (try omega)
   refine vF (E := E) ?_ (fun _ => ?_); exact rfl
   refine uK ?_; rotate_left
   refine xA (fun _ => ?_); (try omega)
   refine uK ?_; refine aoR fun _ => ?_
   refine uK ?_; rotate_left
   refine uR fun _ => ?_; try omega
   ·rename_i hh _
    exact (hh hne').elim
   ·exact vQ (k + 1) (by omega) (by omega) (uL rfl (uL rfl (uL rfl (uL rfl (uL rfl (uL (by rw [hcnt]; rfl) (wO _))))))) leP
 ·have hi : 0 + (ppoL x).length + (coF x).length + (frF x).length + (((rfF x).take k).filter (hneB x)).length = (arrL x).length := by
   rw [show k = (rfF x).length by omega, List.take_length, hM]; omega
  have hK' := hK g b
  rw [← hi] at hK'
  refine run ?_; refine aoR fun _ => ?_
  refine run ?_; refine cnd ?_ ?_
  refine uN fun _ => ?_; try omega
  refine uR fun _ => ?_; try omega
  refine run ?_; refine aoR fun _ => ?_
  refine run ?_
  apply uO; exact rfl; exact .fn _ _ _; exact rfl; exact keysP_p _ rfl
  apply S_callM; exact rfl; exact .fn _ _ _; exact rfl; exact rfl; exact hK'
  refine run ?_; rotate_left
  exact iR rfl rfl
set_option maxHeartbeats 4000000
set_option maxRecDepth 100000
open Go.RowKit Go.Lib
set_option maxHeartbeats 2000000 in
theorem grow_zero (w : World) : Calls Tryz.prog 90 #[.slice none 0 0, .int .i64 0] w fun e w' => e = .returned (.slice none 0 0) ∧ w' = w := by
 go_enter Tryz.func90, Tryz.ntmps90
 go_wp2
 go_ret
 exact ⟨rfl, rfl⟩
set_option maxHeartbeats 2000000 in
theorem grow_more (n : Nat) (h0 : 0 < n) (hn : n ≤ 65536) (w : World) : Calls Tryz.prog 90 #[.slice none 0 0, .int .i64 n] w fun e w' =>
  ∃ cs : Array Value, cs.size = grownCap w n 0 73 * 2 ∧ e = .returned (.slice (some ⟨w.heap.size, 0, none⟩) 0 (grownCap w n 0 73)) ∧ w' = w.drew.alloc (.cells cs 73) := by
 obtain ⟨i0, hi, jz0, jz1, jz2⟩ := info_parts qS
 have h1 : ¬ ((n : Int) < 0) := by omega
 have h2 : RowKit.wrap64 ((0 : Int) - (0 : Int)) = 0 := by unfold RowKit.wrap64; omega
 have h3 : RowKit.wrap64 ((n : Int) - (0 : Int)) = (n : Int) := by unfold RowKit.wrap64; omega
 have h4 : (n : Int) > 0 := by omega
 have hGn : n ≤ grownCap w n 0 73 := grownCap_ge w _ _ _
 have hrz : ∀ ty, (Builtin.append_ #[51, 3] ty #[.slice none 0 0, .int .i64 (n : Int)]).run Tryz.prog w =
   .ok (.slice (some ⟨w.heap.size, 0, none⟩) n (grownCap w n 0 73)) (w.drew.alloc (.cells ((#[] : Array Value) ++ Builtin.zeroCells (Value.agg #[.int .i64 0, .int .i64 0]).cells n ++ Builtin.zeroCells (Value.agg #[.int .i64 0, .int .i64 0]).cells (grownCap w n 0 73 - n)) 73)) := fun ty => by
  have h := Lib.run_append_grow_zeros w 51 3 ty 73 i0 _ .i64 .i64 Tryz.underlying51 Tryz.underlying3 hi jz0 none 0 0 [] (run_firstCells_none w.drew i0.size 0 0 0) n h0 (by omega) (by omega) (by omega) (by rw [jz2]; omega) (growslice_fits (by omega) (by rw [jz2]; omega))
  simpa using h
 have hcs : ((#[] : Array Value) ++ Builtin.zeroCells (Value.agg #[.int .i64 0, .int .i64 0]).cells n ++ Builtin.zeroCells (Value.agg #[.int .i64 0, .int .i64 0]).cells (grownCap w n 0 73 - n)).size = grownCap w n 0 73 * 2 := by
  simp only [Array.size_append, List.size_toArray, List.length_nil, size_zeroCells, Value.cells, List.length_cons]
  omega
 obtain ⟨CS, hCS⟩ : ∃ CS, ((#[] : Array Value) ++ Builtin.zeroCells (Value.agg #[.int .i64 0, .int .i64 0]).cells n ++ Builtin.zeroCells (Value.agg #[.int .i64 0, .int .i64 0]).cells (grownCap w n 0 73 - n)) = CS := ⟨_, rfl⟩
 rw [hCS] at hcs
 simp only [hCS] at hrz
 obtain ⟨Gc, hG⟩ : ∃ Gc, grownCap w n 0 73 = Gc := ⟨_, rfl⟩
 rw [hG] at hcs hGn ⊢
 simp only [hG] at hrz
 have hG63 : Gc ≤ 9223372036854775807 := by
  have := grownCap_le_maxLen w n 0 73 (by unfold maxLen; omega)
  rw [hG] at this
  unfold maxLen at this
  omega
 clear hCS hG
 go_enter Tryz.func90, Tryz.ntmps90
 go_wp2_with (at_builtin; refine Lib.wpList_append_run _ rfl _ _ _ _ rfl _ _ rfl rfl _ _ (hrz _) ?_)
 all_goals (go_ret; exact ⟨CS, hcs, rfl, rfl⟩)
theorem qU (n : Nat) (hn : n ≤ 65536) : Own E.P 90 [.d (.c (.slice none 0 0)), .int .i64 n] 2 [] := by
 refine ⟨⟨_, Tryz.func90, by decide, rfl⟩, fun G w vs N hv hw => ?_⟩
 rw [RepOL] at hv
 obtain ⟨x1, us, rfl, h1, hv⟩ := hv
 rw [RepOL] at hv
 obtain ⟨x2, us, rfl, h2, hv⟩ := hv
 rw [RepOL] at hv
 subst hv
 have e1 := vO h1
 have e2 := vO h2
 subst e1 e2
 obtain ⟨v, hv, hf⟩ := hw.free
 rcases Nat.eq_zero_or_pos n with h0 | h0
 ·subst h0
  refine (grow_zero w).mono ?_
  rintro e w' ⟨rfl, rfl⟩
  exact ⟨_, _, .os 0 (v, 0) 2 0, _, rfl, ⟨0, (v, 0), rfl, Store.put_self _ _ _⟩, Gh.name_le G none (hf 0 0), by rw [RepO]; exact Or.inr ⟨Gh.name_self _ _ _ _, rfl, rfl⟩, hw.phantom 0 hv (hf 0 0) 2⟩
 ·refine (grow_more n h0 hn w).mono ?_
  rintro e w' ⟨cs, hcs, rfl, rfl⟩
  have hc := grownCap_le_maxLen w n 0 73 (by unfold maxLen; omega)
  have hw2 := (hw.drawn (w.drawn + 1)).alloc 0 hv (hf 0 0) cs 73 ⟨2, []⟩ (by simp) (fun i row hi => by simp at hi)
  exact ⟨_, _, .os 0 (v, 0) 2 0, _, rfl, ⟨0, (v, 0), rfl, Store.put_self _ _ _⟩, Gh.name_le G _ (hf 0 0), by rw [RepO]; exact Or.inl ⟨_, _, Gh.name_self _ _ _ _, rfl, Nat.zero_le _, hcs, hc⟩, hw2⟩
theorem kH (ls : List (List (Int × Int))) (k : Nat) (h : k < ls.length) : (ls.take (k + 1)).flatten = (ls.take k).flatten ++ ls.getD k default := by
 rw [wL ls default k h, List.flatten_append]; simp
theorem gO (ls : List (List (Int × Int))) (k : Nat) : ((ls.take k).flatten).length ≤ ls.flatten.length := by
 have h : ls = ls.take k ++ ls.drop k := (List.take_append_drop k ls).symm
 have := congrArg (fun l : List (List (Int × Int)) => l.flatten.length) h
 simp only [List.flatten_append, List.length_append] at this
 omega
def catRow (l : List (Int × Int)) : List TV := [pairsTV l]
set_option maxHeartbeats 4000000 in
theorem concat_o (ls : List (List (Int × Int))) (hl : ls.flatten.length ≤ 65536) (hn : ls.length ≤ 64) : Own E.P 60 [.d (.sl 1 (ls.map catRow))] 2 (ls.flatten.map pairO') := by
 have hG := fun n hn => qU n hn
 refine fnA Tryz.func60 Tryz.ntmps60 ?_
 refine run ?_; refine aoR fun _ => ?_
 refine run ?_; refine aoR fun _ => ?_
 refine run ?_; refine aoR fun _ => ?_
 refine run ?_; rotate_left
 refine vJ (X := Nat) (fun k => tmL [(0, .d (.sl 1 (ls.map catRow))), (3, .int .i64 ((ls.take k).flatten).length), (9, .d (.sl 1 (ls.map catRow))), (10, .int .i64 ls.length), (11, .int .i64 k)]) (fun _ => stL []) (fun k => k ≤ ls.length) (fun k => ls.length - k) 0 (Nat.zero_le _) (by repeat' (first | exact wO _ | exact wD _ | refine uL rfl ?_ | refine vK rfl ?_ | (refine vY rfl ?_ ?_; (simp)) | (refine vM rfl ?_ ?_; (simp)) | (refine vA rfl ?_ ?_; (simp)))) leP ?_
 intro k hk
 have hfl := gO ls k
 by_cases hlt : k < ls.length
 ·have hfl1 := gO ls (k + 1)
  have hft := congrArg List.length (kH ls k hlt)
  rw [List.length_append] at hft
  have hA : ((ls.take k).flatten).length + (ls.getD (k : Int).toNat default).length ≤ 65536 := by rw [Int.toNat_natCast]; omega
  refine run ?_; refine aoR fun _ => ?_
  refine run ?_; refine cnd ?_ ?_
  refine uN fun _ => ?_; try omega
  refine run ?_; refine aoR fun _ => ?_
  refine run ?_; refine aoR fun _ => ?_
  refine run ?_; refine aoR fun _ => ?_
  refine run ?_; refine cnd ?_ ?_
  refine uN fun _ => ?_; try omega
  refine uR fun _ => ?_; try omega
  refine run ?_; refine aoR fun _ => ?_
  refine run ?_; rotate_left
  refine uR fun _ => ?_; try omega
  refine vQ (k + 1) (by omega) (by omega) ?_ leP
  refine uL rfl (uL ?_ (uL rfl (uL rfl (uL rfl (wO _)))))
  show some (OV.int .i64 _) = some (OV.int .i64 _)
  rw [hft]; rfl
 ·have hkl : k = ls.length := by omega
  subst hkl
  rw [List.take_length]
  refine run ?_; refine aoR fun _ => ?_
  refine run ?_; refine cnd ?_ ?_
  refine uN fun _ => ?_; try omega
  refine uR fun _ => ?_; try omega
  refine run ?_; refine aoR fun _ => ?_
  refine run ?_
  apply gH; exact rfl; exact .fn _ _ _; exact rfl; exact qU _ hl
  refine run ?_; refine aoR fun _ => ?_
  refine run ?_; rotate_left
  rename_i v24 _
  refine vJ (X := Nat × Stamp) (fun p => tmL [(6, .os 6 p.2 2 ((ls.take p.1).flatten).length), (25, .d (.sl 1 (ls.map catRow))), (26, .int .i64 ls.length), (27, .int .i64 p.1)]) (fun p => stL [(6, (p.2, ⟨2, ((ls.take p.1).flatten).map pairO'⟩))]) (fun p => p.1 ≤ ls.length) (fun p => ls.length - p.1) (0, (v24, 2)) (Nat.zero_le _) (by repeat' (first | exact wO _ | exact wD _ | refine uL rfl ?_ | refine vK rfl ?_ | (refine vY rfl ?_ ?_; (simp)) | (refine vM rfl ?_ ?_; (simp)) | (refine vA rfl ?_ ?_; (simp)))) (by repeat' (first | exact wO _ | exact wD _ | refine uL rfl ?_ | refine vK rfl ?_ | (refine vY rfl ?_ ?_; (simp)) | (refine vM rfl ?_ ?_; (simp)) | (refine vA rfl ?_ ?_; (simp)))) ?_
  rintro ⟨k, τ⟩ hk
  dsimp only at hk ⊢
  have hfl := gO ls k
  by_cases hlt : k < ls.length
  ·have hfl1 := gO ls (k + 1)
   have hft0 := kH ls k hlt
   have hft := congrArg List.length hft0
   rw [List.length_append] at hft
   have hA : ((ls.take k).flatten).length + (ls.getD (k : Int).toNat default).length ≤ 65536 := by rw [Int.toNat_natCast]; omega
   refine run ?_; refine aoR fun _ => ?_
   refine run ?_; refine cnd ?_ ?_
   refine uN fun _ => ?_; try omega
   refine run ?_; refine aoR fun _ => ?_
   refine run ?_; refine aoR fun _ => ?_
   refine run ?_; refine aoR fun _ => ?_
   refine run ?_; rotate_left
   refine uR fun _ => ?_; try omega
   rename_i v33 _
   refine vQ (k + 1, (v33, 3)) (by dsimp only; omega) (by dsimp only; omega) ?_ ?_
   ·refine uL ?_ (uL rfl (uL rfl (uL rfl (wO _))))
    show some (OV.os 6 _ 2 _) = some (OV.os 6 _ 2 _)
    rw [hft, List.length_map, List.length_map, List.length_map]; rfl
   ·refine vK ?_ (wD _)
    show some (_, Row.mk 2 _) = some (_, Row.mk 2 _)
    rw [hft0, List.map_append, List.map_map]; rfl
  ·have hkl : k = ls.length := by omega
   subst hkl
   rw [List.take_length]
   refine run ?_; refine aoR fun _ => ?_
   refine run ?_; refine cnd ?_ ?_
   refine uN fun _ => ?_; try omega
   refine uR fun _ => ?_; try omega
   refine run ?_; refine aoR fun _ => ?_
   refine run ?_; rotate_left
   refine wR (d := 2) rfl rfl rfl ?_
   first | exact (List.length_map ..).symm | exact List.length_map ..
set_option maxHeartbeats 4000000
set_option maxRecDepth 100000
def ratR (x : Ex) (n : Nat) : Int := if (x.evs.getD n default).kind = 3 then (n : Int) else pairedI x n
def ratM (x : Ex) (n f m : Nat) : Bool := !decide ((x.evs.getD m default).hart = (x.evs.getD n default).hart) && isCoB x f m && isCoB x m n
def ratEv (x : Ex) (n : Nat) : Bool := decide (ratR x n < 0) || (List.range x.evs.length).all fun m => !ratM x n (x.from_.getD (ratR x n).toNat 0).toNat m
def ratB (x : Ex) : Bool := (List.range x.evs.length).all (ratEv x)
theorem jY {es : List Ev} (hb : ∀ i, (es.getD i default).rsv = true → (es.getD i default).kind = 1 ∨ (es.getD i default).kind = 2) (f : Ev) : ∀ k, 0 ≤ pairTo es f k → (es.getD (pairTo es f k).toNat default).ldB = true
 | 0, h => by unfold pairTo at h; omega
 | k + 1, h => by
  have ih := jY hb f k
  have hq := hb k
  unfold pairTo at h ⊢
  by_cases h1 : (es.getD k default).hart = f.hart
  ·rw [if_pos h1] at h ⊢
   by_cases h2 : (es.getD k default).rsv = true
   ·rw [if_pos h2] at h ⊢
    by_cases h3 : (es.getD k default).kind = 2
    ·rw [if_pos h3] at h; omega
    ·rw [if_neg h3] at h ⊢
     by_cases h4 : (es.getD k default).addr = f.addr
     ·rw [if_pos h4] at h ⊢
      rw [Int.toNat_natCast]
      unfold Ev.ldB
      have := (hq h2).resolve_right h3
      rw [this]; rfl
     ·rw [if_neg h4] at h; omega
   ·rw [if_neg h2] at h ⊢; exact ih h
  ·rw [if_neg h1] at h; omega
theorem ratR_bd {x : Ex} (hx : x.rel) {n : Nat} (hn : n < x.evs.length) (h : 0 ≤ ratR x n) : ratR x n ≤ n ∧ 0 ≤ x.from_.getD (ratR x n).toNat 0 ∧ x.from_.getD (ratR x n).toNat 0 < x.evs.length := by
 have hok := lH hx.fit.1 hx.check
 unfold ratR at h ⊢
 split
 ·rename_i h3
  refine ⟨Int.le_refl _, ?_⟩
  rw [Int.toNat_natCast]
  exact hx.src n hn (by unfold Ev.ldB; rw [h3]; rfl)
 ·rename_i h3
  rw [if_neg h3] at h
  unfold pairedI at h ⊢
  split
  ·rename_i h4
   rw [if_pos h4] at h
   have hb := fA x.evs (x.evs.getD n default) n
   refine ⟨by omega, hx.src _ (by omega) (jY hok.rsv _ _ h)⟩
  ·rename_i h4
   rw [if_neg h4] at h; omega
theorem nK {l : List Int} {a k p : Nat} (hp : p < ((l.drop a).take k).length) : ((l.drop a).take k).getD p 0 = l.getD (a + p) 0 ∧ a + p < l.length ∧ p < k := by
 have h1 : p < k ∧ a + p < l.length := by
  rw [List.length_take, List.length_drop] at hp; omega
 refine ⟨?_, h1.2, h1.1⟩
 rw [List.getD_eq_getElem?_getD, List.getElem?_take_of_lt h1.1, List.getElem?_drop, ← List.getD_eq_getElem?_getD]
theorem qC {l : List Int} {a : Int} (h : 0 ≤ atI l a) : l.getD (atI l a).toNat 0 = a ∧ (atI l a).toNat < l.length := by
 have hm : a ∈ l := by
  rcases Classical.em (a ∈ l) with hm | hm
  ·exact hm
  ·have : atI l a = -1 := fM hm
   omega
 have main : ∀ (l : List Int) (k : Nat), a ∈ l → ∃ i, i < l.length ∧ l.getD i 0 = a ∧ atFrom a l k = ((k + i : Nat) : Int) := by
  intro l
  induction l with
  | nil => intro k hm; cases hm
  | cons b r ih =>
   intro k hm
   unfold atFrom
   by_cases e : b = a
   ·rw [if_pos e]
    exact ⟨0, by simp, e, by simp⟩
   ·rw [if_neg e]
    obtain ⟨i, h1, h2, h3⟩ := ih (k + 1) ((List.mem_cons.1 hm).resolve_left fun h => e h.symm)
    exact ⟨i + 1, by simpa using h1, h2, by rw [h3]; congr 1; omega⟩
 obtain ⟨i, h1, h2, h3⟩ := main l 0 hm
 have e : atI l a = i := by unfold atI; rw [h3]; simp
 rw [e, Int.toNat_natCast]
 exact ⟨h2, h1⟩
theorem lT {l : List Int} (hn : l.Nodup) {i : Nat} (hi : i < l.length) {a : Int} (e : l.getD i 0 = a) : atI l a = i := by
 have := dA (k := 0) hn hi e
 rw [Nat.zero_add] at this
 exact this
section
variable {x : Ex}
theorem reads_rat (hx : x.rel) {n : Nat} (hn : n < x.evs.length) : (readsR x n).2 = decide (0 ≤ ratR x n) ∧ ((readsR x n).2 = true → (readsR x n).1 = ratR x n) := by
 unfold readsR ratR
 by_cases hk : (x.evs.getD n default).kind = 3
 ·rw [if_pos hk, if_pos hk]
  exact ⟨(decide_eq_true (by omega)).symm, fun _ => rfl⟩
 ·rw [if_neg hk, if_neg hk]
  unfold pairedR
  rw [Int.toNat_natCast]
  by_cases h0 : 0 ≤ pairedI x n
  ·rw [if_pos ⟨hx.check, by omega, by omega, h0⟩]
   exact ⟨(decide_eq_true h0).symm, fun _ => rfl⟩
  ·rw [if_neg (fun h => h0 h.2.2.2)]
   exact ⟨(decide_eq_false h0).symm, fun h => by cases h⟩
theorem atom_ev (hx : x.rel) {n : Nat} (hn : n < x.evs.length) : atomEv x n = ratEv x n := by
 obtain ⟨h1, h2⟩ := reads_rat hx hn
 by_cases h0 : 0 ≤ ratR x n
 rotate_left
 ·unfold atomEv ratEv
  rw [h1, decide_eq_false h0, decide_eq_true (show ratR x n < 0 by omega)]; rfl
 rw [decide_eq_true h0] at h1
 have h3 := h2 h1
 obtain ⟨b1, b2, b3⟩ := ratR_bd hx hn h0
 have ho := (uV hx.check).2.2.2
 obtain ⟨f, hf⟩ : ∃ f : Nat, x.from_.getD (ratR x n).toNat 0 = (f : Int) := ⟨_, (Int.toNat_of_nonneg b2).symm⟩
 have hfl : f < x.evs.length := by omega
 unfold atomEv ratEv
 rw [h1, h3, hf, decide_eq_false (show ¬ ratR x n < 0 by omega), Bool.not_true, Bool.false_or, Bool.false_or, Int.toNat_natCast, Bool.eq_iff_iff, List.all_eq_true, List.all_eq_true]
 constructor
 ·intro hall m hm
  have hm := List.mem_range.1 hm
  cases hM : ratM x n f m with
  | false => rfl
  | true =>
   exfalso
   unfold ratM at hM
   simp only [Bool.and_eq_true, Bool.not_eq_true', decide_eq_false_iff_not] at hM
   obtain ⟨⟨g1, g2⟩, g3⟩ := hM
   rw [← fI hx.check hfl hm] at g2
   rw [← fI hx.check hm hn] at g3
   unfold coB at g2 g3
   obtain ⟨r, i, j, hr, a2, a3, a4, a5⟩ := eM (of_decide_eq_true g2)
   obtain ⟨r', i', j', hr', c2, c3, c4, c5⟩ := eM (of_decide_eq_true g3)
   have e1 := (aU ho hr a3 a5).2.2
   have e2 := (aU ho hr' (by omega) c4).2.2
   have er := gZ ho hr hr' (e1.symm.trans e2)
   subst er
   have hnd := zS ho hr
   have hij : j = i' := by
    have q1 := lT hnd a3 a5
    have q2 := lT hnd (show i' < _ by omega) c4
    omega
   subst hij
   have qf := lT hnd (show i < _ by omega) a4
   have qn := lT hnd c3 c5
   have hmem : x.order.getD r default ∈ x.order := by
    rw [List.getD_eq_getElem?_getD, List.getElem?_eq_getElem hr]; exact List.getElem_mem hr
   have hrow := hall _ hmem
   unfold atomRow at hrow
   rw [qf, qn, decide_eq_false (by omega), decide_eq_false (by omega), Bool.false_or, Bool.false_or, List.all_eq_true] at hrow
   have hlo : atomLo n (f : Int) (x.order.getD r default).2 = i + 1 := by unfold atomLo; rw [qf, qn]; omega
   have hms : (m : Int) ∈ atomSl n (f : Int) (x.order.getD r default).2 := by
    unfold atomSl
    rw [hlo, qn, Int.toNat_natCast]
    have hp : j - (i + 1) < (((x.order.getD r default).2.drop (i + 1)).take (j' - (i + 1))).length := by
     rw [List.length_take, List.length_drop]; omega
    have := (nK hp).1
    rw [show i + 1 + (j - (i + 1)) = j by omega, a5] at this
    rw [← this]
    exact cA hp
   have := hrow _ hms
   unfold atomM at this
   rw [Int.toNat_natCast] at this
   exact g1 (of_decide_eq_true this)
 ·intro hall row hrow
  obtain ⟨r, hr, rfl⟩ := List.mem_iff_getElem.1 hrow
  have er : x.order.getD r default = x.order[r] := by rw [List.getD_eq_getElem?_getD, List.getElem?_eq_getElem hr]; rfl
  rw [← er]
  have hnd := zS ho hr
  unfold atomRow
  by_cases hfn : atI (x.order.getD r default).2 (f : Int) < 0 ∨ atI (x.order.getD r default).2 (n : Int) < 0
  ·rcases hfn with h | h
   ·rw [decide_eq_true h]; rfl
   ·rw [decide_eq_true h, Bool.or_true]; rfl
  ·have hf0 : 0 ≤ atI (x.order.getD r default).2 (f : Int) := by omega
   have hn0 : 0 ≤ atI (x.order.getD r default).2 (n : Int) := by omega
   obtain ⟨pf1, pf2⟩ := qC hf0
   obtain ⟨pn1, pn2⟩ := qC hn0
   rw [decide_eq_false (by omega), decide_eq_false (by omega), Bool.false_or, Bool.false_or, List.all_eq_true]
   intro m hm
   unfold atomSl at hm
   obtain ⟨p, hp, e⟩ := List.mem_iff_getElem.1 hm
   have e' := (nK hp)
   rw [List.getD_eq_getElem?_getD, List.getElem?_eq_getElem hp, Option.getD_some, e] at e'
   obtain ⟨q1, q2, q3⟩ := e'
   have hlo1 : (atI (x.order.getD r default).2 (f : Int)).toNat + 1 ≤ atomLo n (f : Int) (x.order.getD r default).2 + p := by unfold atomLo at *; omega
   have hlo2 : atomLo n (f : Int) (x.order.getD r default).2 + p < (atI (x.order.getD r default).2 (n : Int)).toNat := by omega
   have hm0 := pO hx.check hr _ q2
   rw [← q1] at hm0
   obtain ⟨m', hm'⟩ : ∃ m' : Nat, m = (m' : Int) := ⟨m.toNat, (Int.toNat_of_nonneg hm0.1).symm⟩
   subst hm'
   have hml : m' < x.evs.length := by omega
   unfold atomM
   rw [Int.toNat_natCast]
   have hM := hall m' (List.mem_range.2 hml)
   rw [Bool.not_eq_true'] at hM
   by_cases hh : (x.evs.getD m' default).hart = (x.evs.getD n default).hart
   ·exact decide_eq_true hh
   ·exfalso
    have c1 : coB x f m' = true := decide_eq_true ((dS _ _).2 ⟨r, hr, (aZ _ _ _).2 ⟨_, _, by omega, q2, pf1, q1.symm⟩⟩)
    have c2 : coB x m' n = true := decide_eq_true ((dS _ _).2 ⟨r, hr, (aZ _ _ _).2 ⟨_, _, hlo2, pn2, q1.symm, pn1⟩⟩)
    rw [fI hx.check hfl hml] at c1
    rw [fI hx.check hml hn] at c2
    unfold ratM at hM
    rw [decide_eq_false hh, c1, c2] at hM
    exact absurd hM (by decide)
theorem atom_eq (hx : x.rel) : atomB x = ratB x := by
 unfold atomB ratB
 rw [Bool.eq_iff_iff, List.all_eq_true, List.all_eq_true]
 refine forall_congr' fun n => forall_congr' fun hn => ?_
 rw [atom_ev hx (List.mem_range.1 hn)]
end
set_option maxRecDepth 100000
abbrev V3 := Bool × Bool × Bool
def judOV (b : V3) : OV := .ag [.bool b.1, .bool b.2.1, .bool b.2.2]
def eqV (a b : V3) : Bool := a.1 == b.1 && (a.2.1 == b.2.1 && a.2.2 == b.2.2)
theorem eqVer_run (a b : V3) (w : World) : (Op.equalIn 10000 34 (.agg #[.bool a.1, .bool a.2.1, .bool a.2.2]) (.agg #[.bool b.1, .bool b.2.1, .bool b.2.2])).run Tryz.prog w = .ok (eqV a b) w := by
 obtain ⟨a1, a2, a3⟩ := a
 obtain ⟨b1, b2, b3⟩ := b
 cases a1 <;> cases a2 <;> cases a3 <;> cases b1 <;> cases b2 <;> cases b3 <;> kernel_rfl
theorem pG {G : Gh} {p : V3} {u : Value} (h : RepO G (judOV p) u) : u = .agg #[.bool p.1, .bool p.2.1, .bool p.2.2] := by
 unfold judOV at h
 rw [RepO] at h
 obtain ⟨cs, rfl, h⟩ := h
 rw [RepOL] at h
 obtain ⟨a, l, e1, h1, h⟩ := h
 rw [RepOL] at h
 obtain ⟨b, l2, rfl, h2, h⟩ := h
 rw [RepOL] at h
 obtain ⟨c, l3, rfl, h3, h⟩ := h
 rw [RepOL] at h
 subst h
 have := vO h1
 have := vO h2
 have := vO h3
 subst a b c
 rw [show cs = cs.toList.toArray by simp, e1]
section
variable {v j : Nat} {ops : Array Oper} {K : Tm → Store → Prop} {KD : List Foot → Tm → Store → Prop} {acc : List Foot} {rest : List Oper} {tm : Tm} {σ : Store} {dst : Option Tmp} {ty : TypeId} {pos : String} {af : Array Edge} {gd : Option (Nat × Bool)}
theorem Y_eqlV {x y : Operand} {T' : TypeId} {p q : V3} (hx : ev tm x = some (judOV p)) (hy : ev tm y = some (judOV q)) :
  YL E.P v j ⟨dst, .binOp .eql 34 x y T', ty, pos, af, gd⟩ tm σ [] (.bool (eqV p q)) [] := oU hx hy (fun M u w' w hu hv => by
 rw [pG hu, pG hv]
 exact ⟨run_eqGuard_agg w _ _ _ _ _ _ (by kernel_rfl), by
  rw [run_eql_struct, show E.P = Tryz.prog from rfl, eqVer_run]; rfl⟩) rfl
theorem S_eqlV {x y : Operand} {T' : TypeId} (p q : V3) (hx : ev tm x = some (judOV p)) (hy : ev tm y = some (judOV q)) (hcont : AO E.P v ops K (j + 1) rest (tm.putO dst (.bool (eqV p q))) (σ.apply [])) : AO E.P v ops K j (⟨dst, .binOp .eql 34 x y T', ty, pos, af, none⟩ :: rest) tm σ := uM (Y_eqlV hx hy) hcont
end
end Go.Proofs.YtnkocjkkefnelaaGreat
