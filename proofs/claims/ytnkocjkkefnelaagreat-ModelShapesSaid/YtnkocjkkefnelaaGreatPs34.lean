/- Parts. -/
import Derived.Test.YtnkocjkkefnelaaGreatPs4
import Derived.Test.YtnkocjkkefnelaaGreatPs5
import Derived.Test.YtnkocjkkefnelaaGreatPs6
import Derived.Test.YtnkocjkkefnelaaGreatPs22
import Derived.Test.YtnkocjkkefnelaaGreatPs23
import Derived.Test.YtnkocjkkefnelaaGreatPs26
import Derived.Test.YtnkocjkkefnelaaGreatPs27
import Derived.Test.YtnkocjkkefnelaaGreatPs33
set_option linter.unusedVariables false
set_option linter.unusedSimpArgs false
set_option maxHeartbeats 4000000
namespace Go.Proofs.YtnkocjkkefnelaaGreat
open Go.RowKit Go.ChangeShapes Go.WideShapes Go.Deep
theorem ledB_congr {l l' : List (Int × Int)} (h : ∀ p, p ∈ l ↔ p ∈ l') (g : Gone) (p : Nat) : ledB l g p = ledB l' g p := by
 unfold ledB
 rw [Bool.eq_iff_iff, List.any_eq_true, List.any_eq_true]
 exact ⟨fun ⟨q, h1, h2⟩ => ⟨q, (h q).1 h1, h2⟩, fun ⟨q, h1, h2⟩ => ⟨q, (h q).2 h1, h2⟩⟩
theorem circleB_congr {l l' : List (Int × Int)} (h : ∀ p, p ∈ l ↔ p ∈ l') (n : Nat) : circleB n l = circleB n l' := by
 have e1 : takeP l = takeP l' := by
  funext g p
  unfold takeP
  rw [ledB_congr h]
 have e2 : ∀ g k, passTo l g k = passTo l' g k := fun g k => by unfold passTo; rw [e1]
 have e3 : ∀ r, roundsTo l n r = roundsTo l' n r := fun r => by
  induction r with
  | zero => rfl
  | succ r ih => unfold roundsTo; rw [ih, e2]
 unfold circleB
 rw [e3]
set_option maxHeartbeats 4000000
set_option maxRecDepth 100000
def glob (x : Ex) (r1 r2 r3 r4 : Nat → Nat → Bool) (a b : Nat) : Bool := r1 a b || r2 a b || r3 a b || (r4 a b && !decide ((x.evs.getD a default).hart = (x.evs.getD b default).hart))
def globB (x : Ex) : Nat → Nat → Bool := glob x (isPpo x) (isCoB x) (isFrB x) (isRf x)
def gloL (x : Ex) : List (Int × Int) := refPairs x.evs.length (globB x)
theorem pR (x : Ex) : (gloL x).any (outB x.evs.length) = false := by
 rw [List.any_eq_false]
 intro p hp
 obtain ⟨a, b, h1, h2, _, rfl⟩ := vE.1 hp
 unfold outB
 simp only [Bool.or_eq_true, decide_eq_true_eq]
 omega
theorem gloL_len {x : Ex} (h : x.rel) : (gloL x).length ≤ 4096 := Nat.le_trans (xH x.evs.length (globB x) x.evs.length) (Nat.mul_le_mul h.len h.len)
set_option maxHeartbeats 4000000
set_option maxRecDepth 100000
open Go.RowKit Go.Maps
def JA (L : List (Int × Int)) (i nn : Nat) (D : DataW Unit) : Prop := nn ≤ i ∧ ∀ kl, has D kl = true ↔ ∃ p ∈ L.take i, kl = kpL p
noncomputable abbrev YA (L : List (Int × Int)) (g : Gh) (b : Nat) : YJ := mapY E.P 73 3 g b (JA L)
theorem JA.start (L : List (Int × Int)) : JA L 0 0 (.map []) := ⟨Nat.le_refl _, fun kl => by simp [Maps.has]⟩
theorem JA.step {L : List (Int × Int)} {i nn : Nat} {D : DataW Unit} (hm : IsMap D) (h : JA L i nn D) (hi : i < L.length) (d : DataW Unit) : JA L (i + 1) (nn + 1) (D.put (kpL (L.getD i default)) d) := by
 refine ⟨by have := h.1; omega, fun kl => ?_⟩
 rw [wZ L default i hi]
 by_cases e : kl = kpL (L.getD i default)
 ·subst e
  rw [has_put_same hm (show WideAt.IsKeyLit (kpL _) from trivial)]
  simp
 ·rw [has_put_other e, h.2 kl]
  constructor
  ·rintro ⟨p, h1, h2⟩; exact ⟨p, by simp [h1], h2⟩
  ·rintro ⟨p, h1, h2⟩
   rcases List.mem_append.1 h1 with h1 | h1
   ·exact ⟨p, h1, h2⟩
   ·simp only [List.mem_singleton] at h1
    subst h1
    exact (e h2).elim
theorem oI {a : Int} (h1 : 0 ≤ a) (h2 : a < 65536) : (Lit.int .i64 a).wf = true := by
 simp only [Lit.wf, IntKind.min, IntKind.max, IntKind.signed, IntKind.bits, Bool.and_eq_true, decide_eq_true_eq, if_true]
 omega
theorem pE {p : Int × Int} (h1 : 0 ≤ p.1) (h2 : p.1 < 65536) (h3 : 0 ≤ p.2) (h4 : p.2 < 65536) : IsKeyV E.P 73 (.ag ((pairTV p).map .d)) (kpL p) := fun G u hu => by
 rw [RepO] at hu
 obtain ⟨vs, rfl, h⟩ := hu
 unfold pairTV at h
 simp only [List.map_cons, List.map_nil] at h
 rw [RepOL] at h
 obtain ⟨v1, us, e1, q1, h⟩ := h
 rw [RepOL] at h
 obtain ⟨v2, us2, e2, q2, h⟩ := h
 rw [RepOL] at h
 subst h e2
 rw [vR q1, vR q2] at e1
 have : vs = #[.int .i64 p.1, .int .i64 p.2] := by rw [← Array.toList_inj, e1]
 rw [this]
 exact rV (oI h1 h2) (oI h3 h4)
theorem sP (w : World) : (zeroValue 3).run E.P w = .ok (.int .i64 0) w := by kernel_rfl
set_option maxHeartbeats 4000000 in
theorem tH (L l : List (Int × Int)) (hsm : smallP L) (hL : L.length ≤ 65536) (i : Nat) (hl : ∀ j, j < l.length → L.getD (i + j) default = l.getD j default) (hil : i + l.length ≤ L.length) (g : Gh) (b : Nat) :
  FnY E.P 64 [.d (pairsTV l), .d (.pt [.c (.map (some b))] 0)] (YA L g b) i (i + l.length) [] (· = []) := by
 have f4 : Frozen 4 := ⟨trivial⟩
 refine yH Tryz.func64 (by decide) rfl Tryz.ntmps64 (Nat.le_of_ble_eq_true rfl) rfl ?_
 refine run ?_; refine aoR fun _ => ?_
 refine run ?_; rotate_left
 refine uT (X := Nat) (fun k => tmL [(1, .d (.pt [.c (.map (some b))] 0)), (5, .d (pairsTV l)), (6, .int .i64 l.length), (7, .int .i64 k), (GS, .gh (i + k) (YA L g b))]) (fun _ => stL []) (fun k => k ≤ l.length) (fun k => l.length - k) 0 (Nat.zero_le _) leP leP ?_
 intro k hk
 by_cases hlt : k < l.length
 ·have hm : L.getD (i + k) default ∈ L := by
   rw [List.getD_eq_getElem?_getD, List.getElem?_eq_getElem (by omega)]; exact List.getElem_mem _
  have hp := hsm _ hm
  have he := hl k hlt
  have hkey : IsKeyV E.P 73 (.ag ((pairTV (l.getD k default)).map .d)) (kpL (L.getD (i + k) default)) := by
   rw [← he]; exact pE hp.1 hp.2.1 hp.2.2.1 hp.2.2.2
  refine run ?_; refine aoR fun _ => ?_
  refine run ?_; refine cnd ?_ ?_
  refine uF fun _ => ?_; try omega
  refine run ?_; refine aoR fun _ => ?_
  refine run ?_
  refine sG (d := 11) (KT := 73) (IT := 3) nO Tryz.underlying92 Tryz.underlying3 sP rfl rfl rfl rfl rfl (by decide) (by decide) (by decide) rfl rfl hkey rfl (fun nn D c hm hJ => ⟨by have := hJ.1; unfold maxLen; omega, hJ.step hm (by omega) _⟩) ?_
  refine run ?_; refine aoR fun _ => ?_
  refine run ?_; rotate_left
  refine uI fun _ => ?_; try omega
  exact uV (k + 1) (by omega) (by omega) leP leP
 ·refine run ?_
  refine aoR fun _ => ?_; refine run ?_
  refine cnd ?_ ?_
  refine uF fun _ => ?_; try omega
  refine uI fun _ => ?_; try omega
  refine run ?_; rotate_left
  have e : k = l.length := by omega
  subst e
  exact ⟨Or.inl rfl, rfl, [], rfl, vP _⟩
theorem enters_keysP : ∀ args w, (callFunc 96 args).run Tryz.prog w = .ok (.enter 96 args) w := enters_of Tryz.func96 (by kernel_rfl) rfl
theorem sortedKeys_m (L : List (Int × Int)) (hL : L.length ≤ 65536) (n : Nat) (f : Nat → Nat → Bool) (hn : n ≤ 65536) (hm : ∀ p, p ∈ L ↔ p ∈ refPairs n f) (g : Gh) (b : Nat) :
  FnM E.P 66 [.fn 96 [] [.d (.pt [.c (.map (some b))] 0)], .fn 68 [] []] ((YA L g b).J L.length) (fun r' _ => r' = .d (pairsTV (refPairs n f))) := by
 refine ⟨⟨_, Tryz.func66, by decide, rfl⟩, fun G w vs N hJ hv hw => ?_⟩
 obtain ⟨nn, D, ⟨hnn, hD⟩, hown⟩ := hJ
 rw [List.take_length] at hD
 rw [RepOL] at hv
 obtain ⟨x1, us, rfl, h1, hv⟩ := hv
 rw [RepOL] at hv
 obtain ⟨x2, us, rfl, h2, hv⟩ := hv
 rw [RepOL] at hv
 subst hv
 rw [RepO] at h2
 obtain ⟨f1, f2, rfl, hf1, hf2⟩ := h2
 rw [RepOL] at hf1 hf2
 have hf1 : f1 = #[] := Array.toList_eq_nil_iff.1 hf1
 have hf2 : f2 = #[] := Array.toList_eq_nil_iff.1 hf2
 subst hf1 hf2
 rw [RepO] at h1
 obtain ⟨v1, u1, rfl, hv1, hu1⟩ := h1
 rw [RepOL] at hv1
 have hv1 : v1 = #[] := Array.toList_eq_nil_iff.1 hv1
 subst hv1
 rw [RepOL] at hu1
 obtain ⟨pv, us, e1, hp, hu1⟩ := hu1
 rw [RepOL] at hu1
 subst hu1
 have e1 : u1 = #[pv] := by rw [← Array.toList_inj, e1]
 subst e1
 rw [RepO, Rep] at hp
 obtain ⟨Bm, of, rfl, hc⟩ := hp
 rw [RepC] at hc
 obtain ⟨⟨mv, hM, hmv⟩, _⟩ := hc
 rw [Rep] at hmv
 obtain ⟨rfl, _⟩ := hmv
 rw [Nat.add_zero]
 have hcell := hw.mem _ _ _ hM
 have hBm : Bm < w.heap.size := (fT hcell).2
 have hsm : ∀ kl, has D kl = true → ∃ x : P2, kl = kp x := fun kl hk => by
  obtain ⟨p, hp, rfl⟩ := (hD kl).1 hk
  obtain ⟨a, c, ha, hc, _, rfl⟩ := vE.1 ((hm p).1 hp)
  exact ⟨(⟨a, by omega⟩, ⟨c, by omega⟩), rfl⟩
 have hsize : Maps.size D ≤ 65536 := by have := hown.size_le; omega
 have hcall := callsIn_wide.1 (sortedFuncA_p 4 (by omega) _ #[.pointer (some ⟨Bm, of, none⟩)] enters_keysP KeepsWalks (KeysP D) (fun _ => True) (Maps.size D) (by omega) w walksK_t walksK_b (fun _ _ h _ => h.walks) (keysP_stops Fence.wide (fun _ => trivial) 1 rfl (by omega) Bm of b nn D hsm w hBm hcell hown))
 refine hcall.mono ?_
 rintro e w' ⟨v, ss, rfl, ⟨hnd, hk1, hk2⟩, _, hrow, hb⟩
 have hlist : (sortP ss).map toI = refPairs n f := by
  rw [gH]
  refine bX ?_ fun p => ?_
  ·refine List.pairwise_map.2 (hnd.imp fun {a c} h e => h ?_)
   unfold toI at e
   simp only [Prod.mk.injEq] at e
   exact Prod.ext (Fin.ext (by omega)) (Fin.ext (by omega))
  ·rw [← hm]
   constructor
   ·intro hp
    obtain ⟨x, hx, rfl⟩ := List.mem_map.1 hp
    obtain ⟨q, hq, e⟩ := (hD _).1 (hk1 x hx)
    obtain ⟨a, c, ha, hc, _, rfl⟩ := vE.1 ((hm q).1 hq)
    have : x = (⟨a, by omega⟩, ⟨c, by omega⟩) := qS e
    subst this
    exact hq
   ·intro hp
    obtain ⟨a, c, ha, hc, _, rfl⟩ := vE.1 ((hm p).1 hp)
    obtain ⟨x, hx, e⟩ := hk2 _ ((hD _).2 ⟨_, hp, rfl⟩)
    have : (⟨a, by omega⟩, ⟨c, by omega⟩) = x := qS e
    exact List.mem_map.2 ⟨x, hx, by rw [← this]; rfl⟩
 have hw1 := hw.below hb
 have hlen : (sortP ss).length = (refPairs n f).length := by rw [← hlist, List.length_map]
 rcases hrow.2 with ⟨rfl, hz⟩ | ⟨gb, cap, cur, rfl, hbase, hgb, r1, r2, r3, r4⟩
 ·refine ⟨_, G, _, Store.nil, rfl, rfl, .refl G, ?_, hw1⟩
  have : refPairs n f = [] := List.eq_nil_of_length_eq_zero (by omega)
  rw [RepO, this]
  unfold pairsTV
  rw [Rep]
  exact ⟨none, 0, rfl, Nat.le_refl _, Or.inl rfl⟩
 ·have hle : G.M.le (G.M.add gb cur) := fun b' o x hx => by
   have hlt := hw.mem_lt hx
   unfold Mem.add
   rw [if_neg (by omega)]
   exact hx
  have hcl : ∀ o x, cur[o]? = some x → w'.cell? ⟨gb, o, none⟩ = some x := fun o x hx => by
   simp [World.cell?, hgb, hx]
  refine ⟨_, ⟨G.M.add gb cur, G.μ⟩, _, Store.nil, rfl, rfl, ⟨hle, fun _ _ _ h => h⟩, ?_, hw1.grow hle (fun b' o x hx => ?_) (fun k τ r β o h => by cases h) (fun b' o x hx => ?_)⟩
  ·rw [RepO]
   unfold pairsTV
   rw [Rep]
   have hl2 : ((refPairs n f).map pairTV).length = (sortP ss).length := by rw [List.length_map, hlen]
   refine ⟨some ⟨gb, 0, none⟩, cap, by rw [hl2], by rw [hl2]; exact r1, Or.inr ⟨gb, 0, rfl, RepR.of_get fun i r hr => ?_⟩⟩
   rw [← hlist, List.map_map, List.getElem?_map] at hr
   obtain ⟨x, hx, rfl⟩ := Option.map_eq_some_iff.1 hr
   refine ⟨rfl, RepC.of_get fun o t ht => ?_⟩
   have hi : i < (sortP ss).length := (List.getElem?_eq_some_iff.1 hx).1
   have hxd : (sortP ss).getD i default = x := by rw [List.getD_eq_getElem?_getD, hx]; rfl
   have get : ∀ j, j < (sortP ss).length * 2 → cur[j]? = some ((encP ((sortP ss).getD (j / 2) default))[j % 2]!) := fun j hj => by
    rw [← aP _ j hj, ← r4, List.getElem?_take_of_lt hj, Array.getElem?_toList]
   have e0 := get (i * 2) (by omega)
   have e1 := get (i * 2 + 1) (by omega)
   rw [show i * 2 / 2 = i by omega, show i * 2 % 2 = 0 by omega, hxd] at e0
   rw [show (i * 2 + 1) / 2 = i by omega, show (i * 2 + 1) % 2 = 1 by omega, hxd] at e1
   have hM' : ∀ j x, cur[j]? = some x → (G.M.add gb cur) gb (0 + j) = some x := fun j x h => by
    unfold Mem.add; rw [if_pos rfl, Nat.zero_add]; exact h
   match o, ht with
   | 0, ht =>
    simp [pairTV, toI] at ht; subst ht
    exact ⟨_, hM' _ _ e0, by rw [Rep]; exact ⟨rfl, rfl⟩⟩
   | 1, ht =>
    simp [pairTV, toI] at ht; subst ht
    exact ⟨_, hM' _ _ e1, by rw [Rep]; exact ⟨rfl, rfl⟩⟩
  ·unfold Mem.add at hx
   split at hx
   ·rename_i e; subst e; exact hcl o x hx
   ·exact hw1.mem b' o x hx
  ·unfold Mem.add at hx
   split at hx
   ·rename_i e; subst e; exact Or.inr (Or.inl hbase)
   ·exact Or.inl hx
def hneB (x : Ex) (p : Int × Int) : Bool := !decide ((x.evs.getD p.1.toNat default).hart = (x.evs.getD p.2.toNat default).hart)
def arrL (x : Ex) : List (Int × Int) := ppoL x ++ coF x ++ frF x ++ (rfF x).filter (hneB x)
theorem sq_le {n : Nat} (h : n ≤ 64) : n * n ≤ 4096 := Nat.mul_le_mul h h
section
variable {x : Ex} (hx : x.rel)
include hx
theorem nU : (ppoL x).length ≤ 4096 ∧ (coF x).length ≤ 4096 ∧ (frF x).length ≤ 4096 ∧ (rfF x).length ≤ 4096 := by
 have h := sq_le hx.len
 have h1 := (show (refPairs _ _).length ≤ _ from xH x.evs.length (isPpo x) x.evs.length)
 have h2 := (show (refPairs _ _).length ≤ _ from xH x.evs.length (isCoB x) x.evs.length)
 have h3 := (show (refPairs _ _).length ≤ _ from xH x.evs.length (isFrB x) x.evs.length)
 have h4 := (show (refPairs _ _).length ≤ _ from xH x.evs.length (isRf x) x.evs.length)
 rw [jF hx, jD hx, cB hx.check]
 unfold ppoL
 omega
theorem arrL_len : (arrL x).length ≤ 65536 := by
 obtain ⟨h1, h2, h3, h4⟩ := nU hx
 have h5 := List.length_filter_le (hneB x) (rfF x)
 unfold arrL
 simp only [List.length_append]
 omega
theorem pI (p : Int × Int) : p ∈ arrL x ↔ p ∈ gloL x := by
 unfold arrL gloL ppoL
 rw [jF hx, jD hx, cB hx.check]
 simp only [List.mem_append, List.mem_filter, vE]
 constructor
 ·rintro (((⟨a, b, h1, h2, h3, rfl⟩ | ⟨a, b, h1, h2, h3, rfl⟩) | ⟨a, b, h1, h2, h3, rfl⟩) | ⟨⟨a, b, h1, h2, h3, rfl⟩, h4⟩) <;> refine ⟨a, b, h1, h2, ?_, rfl⟩ <;> unfold globB glob
  ·rw [h3]; rfl
  ·rw [h3]; simp
  ·rw [h3]; simp
  ·unfold hneB at h4
   simp only [Int.toNat_natCast] at h4
   rw [h3, h4]; simp
 ·rintro ⟨a, b, h1, h2, h3, rfl⟩
  unfold globB glob at h3
  simp only [Bool.or_eq_true, Bool.and_eq_true] at h3
  rcases h3 with ((h3 | h3) | h3) | ⟨h3, h4⟩
  ·exact Or.inl (Or.inl (Or.inl ⟨a, b, h1, h2, h3, rfl⟩))
  ·exact Or.inl (Or.inl (Or.inr ⟨a, b, h1, h2, h3, rfl⟩))
  ·exact Or.inl (Or.inr ⟨a, b, h1, h2, h3, rfl⟩)
  ·exact Or.inr ⟨⟨a, b, h1, h2, h3, rfl⟩, by unfold hneB; simpa using h4⟩
theorem arrL_small : smallP (arrL x) := fun p hp => by
 obtain ⟨a, b, h1, h2, _, rfl⟩ := vE.1 ((pI hx p).1 hp)
 have := hx.len
 dsimp only
 omega
end
theorem dZ {L1 L2 : List (Int × Int)} {j : Nat} (h : j < L1.length) : (L1 ++ L2).getD j default = L1.getD j default := by
 rw [List.getD_eq_getElem?_getD, List.getElem?_append_left h, ← List.getD_eq_getElem?_getD]
theorem yG (L1 L2 : List (Int × Int)) (j : Nat) : (L1 ++ L2).getD (L1.length + j) default = L2.getD j default := by
 rw [List.getD_eq_getElem?_getD, List.getElem?_append_right (by omega), ← List.getD_eq_getElem?_getD]
 congr 1; omega
theorem cK {α : Type} (d : α) (f : α → Bool) : ∀ (l : List α) (k : Nat), k < l.length → f (l.getD k d) = true → (l.filter f).getD ((l.take k).filter f).length d = l.getD k d ∧ ((l.take k).filter f).length < (l.filter f).length
 | [], k, h, _ => by simp at h
 | a :: l, 0, _, h => by
  have h : f a = true := h
  simp [h]
 | a :: l, k + 1, hk, h => by
  obtain ⟨h1, h2⟩ := cK d f l k (by simpa using hk) (by simpa using h)
  cases ha : f a with
  | false => simp only [List.take_succ_cons, List.filter_cons, ha, Bool.false_eq_true, if_false, List.getD_cons_succ]; exact ⟨h1, h2⟩
  | true => simp only [List.take_succ_cons, List.filter_cons, ha, if_true, List.length_cons, List.getD_cons_succ]; exact ⟨h1, by omega⟩
theorem keysP_p (v : Value) (hv : v.oneCell' = true) : Pure E.P 67 [.d (.c v)] (.fn 96 [] [.d (.pt [.c v] 0)]) := by
 have f1 : Frozen 1 := ⟨trivial⟩
 refine fnA Tryz.func67 Tryz.ntmps67 ?_
 refine run ?_; refine aoR fun _ => ?_
 refine run ?_; refine aoR fun _ => ?_
 refine run ?_; rotate_left
 exact kF rfl rfl
set_option maxHeartbeats 4000000 in
theorem arrows_p (x : Ex) (hx : x.rel) : Pure E.P 43 [jdOV x (rfF x) (coF x) (frF x)] (.d (pairsTV (gloL x))) := by
 have f1 : Frozen 1 := ⟨trivial⟩
 have f3 : Frozen 3 := ⟨trivial⟩
 have f8 : Frozen 8 := ⟨trivial⟩
 have hn := hx.len
 obtain ⟨l1, l2, l3, l4⟩ := nU hx
 have hL := arrL_len hx
 have hS := arrL_small hx
 have hP : Pure E.P 65 [exOV x] (.tu [.d (pairsTV (ppoL x)), .int .i64 0]) := by
  have := Ppo_p x hx.fit
  unfold ppoT at this
  rw [if_neg (by simp [hx.check])] at this
  exact this
 obtain ⟨M, hM⟩ : ∃ M, (rfF x).filter (hneB x) = M := ⟨_, rfl⟩
 have hLL : (arrL x).length = (ppoL x).length + (coF x).length + (frF x).length + M.length := by unfold arrL; rw [hM]; simp only [List.length_append]
 have a1 : ∀ g b, FnY E.P 64 [.d (pairsTV (ppoL x)), .d (.pt [.c (.map (some b))] 0)] (YA (arrL x) g b) 0 (0 + (ppoL x).length) [] (· = []) := tH _ _ hS hL 0 (fun j hj => by
  unfold arrL; rw [Nat.zero_add, List.append_assoc, List.append_assoc, dZ hj]) (by omega)
 have a2 : ∀ g b, FnY E.P 64 [.d (pairsTV (coF x)), .d (.pt [.c (.map (some b))] 0)] (YA (arrL x) g b) (0 + (ppoL x).length) (0 + (ppoL x).length + (coF x).length) [] (· = []) := tH _ _ hS hL _ (fun j hj => by
  unfold arrL; rw [Nat.zero_add, List.append_assoc, List.append_assoc, yG, dZ hj]) (by omega)
 have a3 : ∀ g b, FnY E.P 64 [.d (pairsTV (frF x)), .d (.pt [.c (.map (some b))] 0)] (YA (arrL x) g b) (0 + (ppoL x).length + (coF x).length) (0 + (ppoL x).length + (coF x).length + (frF x).length) [] (· = []) := tH _ _ hS hL _ (fun j hj => by
  unfold arrL
  rw [Nat.zero_add, List.append_assoc, List.append_assoc, show (ppoL x).length + (coF x).length + j = (ppoL x).length + ((coF x).length + j) by omega, yG, yG, dZ hj]) (by omega)
 have hK := sortedKeys_m (arrL x) hL x.evs.length (globB x) (by omega) (pI hx)
 refine fnA Tryz.func43 Tryz.ntmps43 ?_
 refine run ?_; refine aoR fun _ => ?_
 refine run ?_; refine aoR fun _ => ?_
 ((apply S_makeMap (JA (arrL x)) (JA.start _)); intro g b)
 refine run ?_; refine aoR fun _ => ?_
 refine run ?_; refine aoR fun _ => ?_
 refine run ?_
 apply uP; exact rfl; exact .fn _ _ _; exact rfl; exact hP
 refine run ?_; refine aoR fun _ => ?_
 refine run ?_
 apply nZ; exact rfl; (exact .fn _ _ _); exact rfl; exact rfl; (exact a1 _ _)
 refine run ?_; refine aoR fun _ => ?_
 refine run ?_
 apply nZ; exact rfl; (exact .fn _ _ _); exact rfl; exact rfl; (exact a2 _ _)
 refine run ?_; refine aoR fun _ => ?_
 refine run ?_
 apply nZ; exact rfl; (exact .fn _ _ _); exact rfl; exact rfl; (exact a3 _ _)
 refine run ?_; refine aoR fun _ => ?_
 refine run ?_; rotate_left
 refine uT (X := Nat) (fun k => tmL [(1, .d (.pt (jdRow x (rfF x) (coF x) (frF x)) 0)), (3, .d (.pt [.c (.map (some b))] 0)), (29, .d (pairsTV (rfF x))), (30, .int .i64 (rfF x).length), (31, .int .i64 k), (GS, .gh (0 + (ppoL x).length + (coF x).length + (frF x).length + (((rfF x).take k).filter (hneB x)).length) (YA (arrL x) g b))]) (fun _ => stL []) (fun k => k ≤ (rfF x).length) (fun k => (rfF x).length - k) 0 (Nat.zero_le _) leP leP ?_
 intro k hk
 by_cases hlt : k < (rfF x).length
 ·obtain ⟨a, c, ha, hc, e0⟩ : ∃ a c : Nat, a < x.evs.length ∧ c < x.evs.length ∧ (rfF x).getD k default = ((a : Int), (c : Int)) := by
   have : (rfF x).getD k default ∈ refPairs x.evs.length (isRf x) := by
    rw [← cB hx.check, List.getD_eq_getElem?_getD, List.getElem?_eq_getElem hlt]; exact List.getElem_mem hlt
   obtain ⟨a, c, h1, h2, _, h3⟩ := vE.1 this
   exact ⟨a, c, h1, h2, h3⟩
  have e1 : ((rfF x).getD (k : Int).toNat default).1 = (a : Int) := by rw [Int.toNat_natCast, e0]
  have e2 : ((rfF x).getD (k : Int).toNat default).2 = (c : Int) := by rw [Int.toNat_natCast, e0]
  have b1 : 0 ≤ ((rfF x).getD (k : Int).toNat default).1 ∧ ((rfF x).getD (k : Int).toNat default).1 < x.evs.length := by omega
  have b2 : 0 ≤ ((rfF x).getD (k : Int).toNat default).2 ∧ ((rfF x).getD (k : Int).toNat default).2 < x.evs.length := by omega
  have htk := wZ (rfF x) default k hlt
  have hkey : IsKeyV E.P 73 (.ag ((pairTV ((rfF x).getD k default)).map .d)) (kpL ((rfF x).getD k default)) := by
   rw [e0]; exact pE (by dsimp only; omega) (by dsimp only; omega) (by dsimp only; omega) (by dsimp only; omega)
  have hidx : hneB x ((rfF x).getD k default) = true → (arrL x).getD (0 + (ppoL x).length + (coF x).length + (frF x).length + (((rfF x).take k).filter (hneB x)).length) default = (rfF x).getD k default ∧ (((rfF x).take k).filter (hneB x)).length < M.length := fun h => by
   obtain ⟨q1, q2⟩ := cK default (hneB x) (rfF x) k hlt h
   rw [hM] at q1 q2
   refine ⟨?_, q2⟩
   rw [← q1]
   unfold arrL
   rw [hM, List.append_assoc, List.append_assoc, show 0 + (ppoL x).length + (coF x).length + (frF x).length + (((rfF x).take k).filter (hneB x)).length = (ppoL x).length + ((coF x).length + ((frF x).length + (((rfF x).take k).filter (hneB x)).length)) by omega, yG, yG, yG]
  by_cases hne : hneB x ((rfF x).getD k default) = true
  ·obtain ⟨i1, i2⟩ := hidx hne
   have hkey2 : IsKeyV E.P 73 (.ag ((pairTV ((rfF x).getD k default)).map .d)) (kpL ((arrL x).getD (0 + (ppoL x).length + (coF x).length + (frF x).length + (((rfF x).take k).filter (hneB x)).length) default)) := by rw [i1]; exact hkey
   have hcnt : (((rfF x).take (k + 1)).filter (hneB x)).length = (((rfF x).take k).filter (hneB x)).length + 1 := by
    rw [htk, List.filter_append, List.filter_cons, if_pos hne]; simp
   have hne' : ¬ (x.evs.getD ((rfF x).getD k default).1.toNat default).hart = (x.evs.getD ((rfF x).getD k default).2.toNat default).hart := by unfold hneB at hne; simpa using hne
   refine run ?_; refine aoR fun _ => ?_
   refine run ?_; refine cnd ?_ ?_
   refine uF fun _ => ?_; try omega
   refine run ?_; refine aoR fun _ => ?_
   refine run ?_
   refine uO (E := E) ?_ (fun _ => ?_); exact rfl
   refine run ?_; refine cnd ?_ ?_
   refine wR (fun _ => ?_); (try omega)
   refine sG (d := 52) (KT := 73) (IT := 3) nO Tryz.underlying92 Tryz.underlying3 sP rfl rfl rfl rfl rfl (by decide) (by decide) (by decide) rfl rfl hkey2 rfl (fun nn D c hm hJ => ⟨by have := hJ.1; unfold maxLen; omega, hJ.step hm (by omega) _⟩) ?_
   refine run ?_; refine aoR fun _ => ?_
   refine run ?_; rotate_left
   refine wS (fun _ => ?_); (try omega)
   refine run ?_; refine aoR fun _ => ?_
   refine run ?_; rotate_left
   refine uI fun _ => ?_; try omega
   ·exact uV (k + 1) (by omega) (by omega) (uL rfl (uL rfl (uL rfl (uL rfl (uL rfl (uL (by rw [hcnt]; rfl) (vW _))))))) leP
   ·rename_i hh _
    exact (hne' hh).elim
  ·have hcnt : (((rfF x).take (k + 1)).filter (hneB x)).length = (((rfF x).take k).filter (hneB x)).length := by
    rw [htk, List.filter_append, List.filter_cons, if_neg hne]; simp
   have hne' : (x.evs.getD ((rfF x).getD k default).1.toNat default).hart = (x.evs.getD ((rfF x).getD k default).2.toNat default).hart := by unfold hneB at hne; simpa using hne
   refine uK ?_; refine aoR fun _ => ?_
   refine uK ?_; refine cnd ?_ ?_
   refine uF fun _ => ?_; try omega
   refine uK ?_; refine aoR fun _ => ?_
   refine uK ?_
   refine uO (E := E) ?_ (fun _ => ?_); exact rfl
   refine uK ?_; refine cnd ?_ ?_
   refine wR (fun _ => ?_); (try omega)
   refine uO (E := E) ?_ (fun _ => ?_); exact rfl
   refine uK ?_; rotate_left
   refine wS (fun _ => ?_); (try omega)
   refine uK ?_; refine aoR fun _ => ?_
   refine uK ?_; rotate_left
   refine uI fun _ => ?_; try omega
   ·rename_i hh _
    exact (hh hne').elim
   ·exact uV (k + 1) (by omega) (by omega) (uL rfl (uL rfl (uL rfl (uL rfl (uL rfl (uL (by rw [hcnt]; rfl) (vW _))))))) leP
 ·have hi : 0 + (ppoL x).length + (coF x).length + (frF x).length + (((rfF x).take k).filter (hneB x)).length = (arrL x).length := by
   rw [show k = (rfF x).length by omega, List.take_length, hM]; omega
  have hK' := hK g b
  rw [← hi] at hK'
  refine run ?_; refine aoR fun _ => ?_
  refine run ?_; refine cnd ?_ ?_
  refine uF fun _ => ?_; try omega
  refine uI fun _ => ?_; try omega
  refine run ?_; refine aoR fun _ => ?_
  refine run ?_
  apply uP; exact rfl; exact .fn _ _ _; exact rfl; exact keysP_p _ rfl
  apply S_callM; exact rfl; exact .fn _ _ _; exact rfl; exact rfl; exact hK'
  refine run ?_; rotate_left
  exact kF rfl rfl
set_option maxRecDepth 100000
section
variable {E : Env} {V J : Nat} {ty : TypeId} {pos : String} {af : Array Edge} {gd : Option (Nat × Bool)} {tm : Tm} {σ : Store}
theorem Y_appendR {d : Nat} {T e : TypeId} {te ee : TE} {x z : Operand} {s k n : Nat} {τ : Stamp} {y2 : OV} {ks2 : List Nat} {rows1 rows2 : List (List OV)} (hT : E.tab T = some te) (hk : te.k = .slice e) (hE : E.tab e = some ee) (hs : ee.size = s) (hpos : 0 < s)
  (hx : ev tm x = some (.os k τ s n)) (hz : ev tm z = some y2) (hs1 : σ k = some (τ, ⟨s, rows1⟩)) (hn : n = rows1.length) (h2 : Src σ s y2 ks2 rows2) (hlf : ∀ r ∈ rows2, ∀ y ∈ r, y.leaf = true)
  (hb : (rows1.length + rows2.length) * ee.bytes ≤ 140737488355328) (hm : rows1.length + rows2.length ≤ maxLen) :
  YL E.P V J ⟨some d, .call { callee := .builtin .append, args := #[x, z], argTypes := #[T, T] }, ty, pos, af, gd⟩ tm σ (k :: ks2) (.os d (V, J) s (rows1.length + rows2.length)) [(k, none), (d, some ((V, J), ⟨s, rows1 ++ rows2⟩))] :=
 fun σ' hσ Γ G ρ w hv hf hρ hw => by
 have hs1 : σ' k = some (τ, ⟨s, rows1⟩) := by rw [hσ k (by simp)]; exact hs1
 have hwd : WRel Γ G (σ'.del k) w := hw.forget (Store.del_le σ' k)
 have h2 := h2.move (σ' := σ') fun k hk => hσ k (by simp [hk])
 have r1 := hρ x (by simp [Op.operands, Call.operands]) _ hx
 obtain ⟨a, c, e2, hlc, hsrc⟩ := h2.lies hw (hρ z (by simp [Op.operands, Call.operands]) _ hz) hlf
 obtain ⟨_, i, zv, hi, i1, i2, hzv, hzc, hlen, hone⟩ := E.ok e ee hE
 have ht := (E.ok T te hT).1
 rw [hk] at ht
 simp only [TK.fits] at ht
 have hzs : zv.cells.size = s := by rw [← Array.length_toList, hzc, hlen, hs]
 have his : i.size = s := by omega
 have hmI : ((rows1.length + rows2.length : Nat) : Int) ≤ 9223372036854775807 := by unfold maxLen at hm; omega
 show NextOk E.P Γ G V J _ ((σ'.del k).put d ((V, J), ⟨s, rows1 ++ rows2⟩)) _
 -- the first slice's block, where it has one
 have nilCase : ρ x = .slice none 0 0 → rows1 = [] → NextOk E.P Γ G V J (.os d (V, J) s (rows1.length + rows2.length)) ((σ'.del k).put d ((V, J), ⟨s, rows1 ++ rows2⟩))
   ((execOp ρ ⟨some d, .call { callee := .builtin .append, args := #[x, z], argTypes := #[T, T] }, ty, pos, af, gd⟩).run E.P w) := fun e1 hr1 => by
  subst hr1
  simp only [List.nil_append, List.length_nil, Nat.zero_add] at hb hm hmI ⊢
  rcases hsrc with ⟨rfl, rfl⟩ | ⟨ad, rfl, vs, v1, v2, v3, v4⟩
  ·rw [vT (u := .slice none 0 0) (w' := w) (by rw [e1, e2]; exact xN ht hi none 0 0 c (Nat.le_refl _))]
   exact ⟨_, Gh.name_le G _ (hf d), wD G d V J _, by rw [RepO]; exact Or.inr ⟨Gh.name_self _ _ _ _, rfl, rfl⟩, hwd.phantom d hv (hf d) s⟩
  ·by_cases h0 : rows2.length = 0
   ·have : rows2 = [] := List.eq_nil_of_length_eq_zero h0
    subst this
    have hvs : vs = [] := List.eq_nil_of_length_eq_zero (by simpa using v1)
    subst hvs
    have hr : (Builtin.append_ #[T, T] ty #[ρ x, ρ z]).run E.P w = .ok (.slice none 0 0) w := by
     rw [e1, e2]
     simp [Builtin.append_, run_underlying ht, sizeOf, typeInfo, hi, Builtin.lenOf, Builtin.firstCells, loadCells, loadCellsFrom]
    rw [vT hr]
    exact ⟨_, Gh.name_le G _ (hf d), wD G d V J _, by rw [RepO]; exact Or.inr ⟨Gh.name_self _ _ _ _, rfl, rfl⟩, hwd.phantom d hv (hf d) s⟩
   ·have hr := run_append_nil (P := E.P) w T ty e i zv ht hi hzv ad rows2.length c vs (by rw [his]; exact v1) v2 (by omega) hmI (by rw [i2]; omega)
    rw [vT (by rw [e1, e2]; exact hr)]
    have hge := grownCap_ge w rows2.length 0 e
    refine Leaves.made hwd hv hf ?_ rfl hge (grownCap_le_maxLen w rows2.length 0 e hm) (by simp only [Array.size_append, List.size_toArray, size_zeroCells, hzs, v1, ← Nat.add_mul]; congr 1; omega)
    intro i' row hi'
    obtain ⟨q1, q2⟩ := v4 i' row hi'
    refine ⟨q1, fun p y hy => ?_⟩
    obtain ⟨v, q3, q4⟩ := q2 p y hy
    refine ⟨v, ?_, q4⟩
    rw [Array.getElem?_append_left]
    ·exact q3
    ·rcases Nat.lt_or_ge (i' * s + p) vs.toArray.size with hh | hh
     ·exact hh
     ·rw [Array.getElem?_eq_none hh] at q3; cases q3
 subst hn
 rw [RepO] at r1
 rcases r1 with ⟨β, cap, hμ, e1, c1, c2, c3⟩ | ⟨hμ, e1, hn⟩
 ·have hother : ∀ k' τ' r' β', k' ≠ d → (σ'.del k) k' = some (τ', r') → G.μ k' τ' = some (some β') → β'.b ≠ β.b := fun k' τ' r' β' _ hk' hμ' e => by
   by_cases hkk : k' = k
   ·subst hkk; rw [Store.del_self] at hk'; cases hk'
   ·rw [Store.del_ne _ hkk] at hk'
    exact hkk (hw.inj k' k τ' τ β' β r' _ hk' hs1 hμ' hμ e)
  obtain ⟨hsep, hfr⟩ : (∀ o, G.M β.b o = none) ∧ (Γ.w0.heap.size ≤ β.b ∨ Γ.S β.b) := by
   rcases hw.own k τ _ hs1 with ⟨h1, _⟩ | ⟨β0, h1, h2, hsep, hfr⟩
   ·rw [hμ] at h1; cases h1
   ·rw [hμ] at h1; cases h1; exact ⟨hsep, hfr⟩
  obtain ⟨cs, g1, g2, g3, g4⟩ := hw.blk hs1 hμ
  simp only at g3
  rcases hsrc with ⟨rfl, rfl⟩ | ⟨ad, rfl, vs, v1, v2, v3, v4⟩
  ·rw [vT (u := ρ x) (w' := w) (by rw [e1, e2]; exact xN ht hi _ rows1.length cap c c1), e1]
   refine ⟨_, Gh.name_le G _ (hf d), wD G d V J _, ?_, hwd.named (k := d) (β := β) hv (hf d) (Nat.le_refl _) rfl rfl rfl (fun _ _ _ => rfl) ⟨cs, g1, g2, by simpa using g3, by simpa using g4⟩ hsep hfr hother⟩
   rw [RepO]
   exact Or.inl ⟨β, cap, Gh.name_self _ _ _ _, rfl, by simpa using c1, c2, c3⟩
  ·by_cases hroom : rows1.length + rows2.length ≤ cap
   ·have hfit : rows1.length * s + vs.length ≤ cs.size := by rw [v1, g2, c2, ← Nat.add_mul]; exact Nat.mul_le_mul_right _ hroom
    have hr := aJ (P := E.P) w T ty e β.T i ht hi β.b rows1.length cap cs g1 ad rows2.length c vs (by rw [his]; exact v1) v2 v3 hroom (by rw [his]; exact hfit)
    rw [his] at hr
    rw [vT (by rw [e1, e2]; exact hr)]
    refine ⟨_, Gh.name_le G _ (hf d), wD G d V J _, ?_, hwd.named (k := d) (β := β) hv (hf d) (by simp) rfl rfl rfl (fun b _ hb => setRow_other w β.b b _ hb) ⟨_, setRow_heap w β.b cs _ β.T _ g1, ?_, ?_, ?_⟩ hsep hfr hother⟩
    ·rw [RepO]
     exact Or.inl ⟨β, cap, Gh.name_self _ _ _ _, rfl, hroom, c2, c3⟩
    ·simp only [List.size_toArray, List.length_append, List.length_take, List.length_drop, Array.length_toList]
     omega
    ·simp only [List.length_append, Nat.add_mul]
     rw [← v1, ← g2]; exact hfit
    ·have htl : (cs.toList.take (rows1.length * s)).length = rows1.length * s := by simp; omega
     refine RowAt.append (vs := vs) ?_ ?_ ?_ v4 v1
     ·have e3 : (cs.toList.take (rows1.length * s) ++ vs).length = rows1.length * s + vs.length := by rw [List.length_append, htl]
      rw [← e3, List.take_left]
      rw [List.append_assoc, ← htl, List.length_take]
      rw [Nat.min_eq_left (by simp; omega), List.take_left' (by simp; omega)]
     ·simp only [List.size_toArray, List.length_append, List.length_take, List.length_drop, Array.length_toList]
      omega
     ·intro i' row hi'
      obtain ⟨q1, q2⟩ := g4 i' row hi'
      refine ⟨q1, fun p y hy => ?_⟩
      obtain ⟨v, q3, q4⟩ := q2 p y hy
      refine ⟨v, ?_, q4⟩
      have hlt : i' < rows1.length := by
       rcases Nat.lt_or_ge i' rows1.length with hh | hh
       ·exact hh
       ·rw [show (Row.rows ⟨s, rows1⟩) = rows1 from rfl, List.getElem?_eq_none hh] at hi'; cases hi'
      have hp : p < s := by
       rcases Nat.lt_or_ge p row.length with hh | hh
       ·have := q1; simp only at this; omega
       ·rw [List.getElem?_eq_none hh] at hy; cases hy
      have hb' : (i' + 1) * s ≤ rows1.length * s := Nat.mul_le_mul_right s hlt
      rw [Nat.succ_mul] at hb'
      simp only [List.getElem?_toArray, List.append_assoc]
      rw [List.getElem?_append_left (by rw [htl]; omega), List.getElem?_take, if_pos (by omega)]
      simpa using q3
   ·have hol : ∀ j u, (cs.toList.take (rows1.length * s))[j]? = some u → w.cell? ((⟨β.b, 0, none⟩ : Addr).add j) = some u := fun j u hu => by
     rw [List.getElem?_take] at hu
     split at hu
     ·rw [xL]; simpa [World.cell?, g1] using hu
     ·cases hu
    have htl : (cs.toList.take (rows1.length * s)).length = rows1.length * s := by simp; omega
    have hr := run_append_grow (P := E.P) w T ty e i zv ht hi hzv ⟨β.b, 0, none⟩ rows1.length cap (cs.toList.take (rows1.length * s)) (by rw [htl, his]) hol ad rows2.length c vs (by rw [his]; exact v1) v2 (by omega) hmI (growslice_fits (by omega) (by rw [i2]; exact hb))
    rw [vT (by rw [e1, e2]; exact hr)]
    have hge := grownCap_ge w (rows1.length + rows2.length) cap e
    refine Leaves.made hwd hv hf ?_ (by simp) hge (grownCap_le_maxLen w _ cap e hm) (by
     simp only [Array.size_append, List.size_toArray, size_zeroCells, hzs, htl, v1, ← Nat.add_mul]; congr 1; omega)
    refine RowAt.append (vs := vs) ?_ ?_ ?_ v4 v1
    ·simp only [Array.toList_append, List.append_assoc]
     exact oL _ vs _ _ htl
    ·simp only [Array.size_append, List.size_toArray, htl]; omega
    ·intro i' row hi'
     obtain ⟨q1, q2⟩ := g4 i' row hi'
     refine ⟨q1, fun p y hy => ?_⟩
     obtain ⟨v, q3, q4⟩ := q2 p y hy
     refine ⟨v, ?_, q4⟩
     have hlt : i' < rows1.length := by
      rcases Nat.lt_or_ge i' rows1.length with hh | hh
      ·exact hh
      ·rw [show (Row.rows ⟨s, rows1⟩) = rows1 from rfl, List.getElem?_eq_none hh] at hi'; cases hi'
     have hp : p < s := by
      rcases Nat.lt_or_ge p row.length with hh | hh
      ·have := q1; simp only at this; omega
      ·rw [List.getElem?_eq_none hh] at hy; cases hy
     have hb' : (i' + 1) * s ≤ rows1.length * s := Nat.mul_le_mul_right s hlt
     rw [Nat.succ_mul] at hb'
     have hlt2 : i' * s + p < rows1.length * s := by omega
     rw [Array.append_assoc, Array.getElem?_append_left (by simpa [htl] using hlt2)]
     simp only [List.getElem?_toArray]
     rw [List.getElem?_take, if_pos hlt2]
     simpa using q3
 ·exact nilCase e1 (List.eq_nil_of_length_eq_zero hn)
end
structure RenOf (d : Nat) : Prop where
 on : True
variable {E : Env} {v j : Nat} {ops : Array Oper} {K : Tm → Store → Prop} {KD : List Foot → Tm → Store → Prop} {acc : List Foot} {rest : List Oper} {tm : Tm} {σ : Store} {ty : TypeId} {pos : String} {af : Array Edge} {gd : Option (Nat × Bool)}
theorem Ren.D_appendK {d : Nat} {T e : TypeId} {te ee : TE} {x z : Operand} {s k n : Nat} {τ : Stamp} {y2 : OV} {ks2 : List Nat} {rows1 rows2 : List (List OV)} (hmk : RenOf d) (hT : E.tab T = some te) (hk : te.k = .slice e) (hE : E.tab e = some ee) (hs : ee.size = s) (hpos : 0 < s) (hx : ev tm x = some (.os k τ s n)) (hz : ev tm z = some y2) (h1 : Dst σ s d (.os k τ s n) [k] k rows1) (h2 : Src σ s y2 ks2 rows2) (hlf : ∀ r ∈ rows2, ∀ y ∈ r, y.leaf = true) (hb : (rows1.length + rows2.length) * ee.bytes ≤ 140737488355328) (hm : rows1.length + rows2.length ≤ maxLen) (hcont : DO E.P v ops KD (j + 1) rest (tm.putO (some d) (.os d (v, j) s (rows1.length + rows2.length))) (σ.apply [(k, none), (d, some ((v, j), ⟨s, rows1 ++ rows2⟩))]) (Foot.mk (k :: ks2) (wkeys [(k, none), (d, some ((v, j), ⟨s, rows1 ++ rows2⟩))]) :: acc)) : DO E.P v ops KD j (⟨some d, .call { callee := .builtin .append, args := #[x, z], argTypes := #[T, T] }, ty, pos, af, none⟩ :: rest) tm σ acc := by
 cases h1 with
 | os _ _ _ _ hs1 hn => exact vL (Y_appendR hT hk hE hs hpos hx hz hs1 hn h2 hlf hb hm) hcont
end Go.Proofs.YtnkocjkkefnelaaGreat
