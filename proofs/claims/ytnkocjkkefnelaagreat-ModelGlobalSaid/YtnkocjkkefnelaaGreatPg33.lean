/- Parts. -/
import Derived.Lib.AppendZerosOnto
import Derived.Lib.SliceRun
import Derived.Test.YtnkocjkkefnelaaGreatPg4
import Derived.Test.YtnkocjkkefnelaaGreatPg5
import Derived.Test.YtnkocjkkefnelaaGreatPg6
import Derived.Test.YtnkocjkkefnelaaGreatPg9
import Derived.Test.YtnkocjkkefnelaaGreatPg10
import Derived.Test.YtnkocjkkefnelaaGreatPg13
import Derived.Test.YtnkocjkkefnelaaGreatPg28
import Derived.Test.YtnkocjkkefnelaaGreatPg30
import Derived.Test.YtnkocjkkefnelaaGreatPg31
import Derived.Test.YtnkocjkkefnelaaGreatPg32
set_option linter.unusedVariables false
set_option linter.unusedSimpArgs false
set_option maxHeartbeats 4000000
set_option maxHeartbeats 4000000
set_option maxRecDepth 100000
namespace Go.Proofs.YtnkocjkkefnelaaGreat
open Go.RowKit
def glob (x : Ex) (r1 r2 r3 r4 : Nat → Nat → Bool) (a b : Nat) : Bool := r1 a b || r2 a b || r3 a b || (r4 a b && !decide ((x.evs.getD a default).hart = (x.evs.getD b default).hart))
set_option maxHeartbeats 4000000 in
theorem rpairs6_p (x : Ex) (hx : x.evs.length ≤ 4096) (r1 r2 r3 r4 : Nat → Nat → Bool) (hp1 : ∀ a b : Nat, a < x.evs.length → b < x.evs.length → Pure E.P 47 [exOV x, .int .i64 a, .int .i64 b] (.bool (r1 a b))) (hp2 : ∀ a b : Nat, a < x.evs.length → b < x.evs.length → Pure E.P 42 [exOV x, .int .i64 a, .int .i64 b] (.bool (r2 a b))) (hp3 : ∀ a b : Nat, a < x.evs.length → b < x.evs.length → Pure E.P 46 [exOV x, .int .i64 a, .int .i64 b] (.bool (r3 a b))) (hp4 : ∀ a b : Nat, a < x.evs.length → b < x.evs.length → Pure E.P 45 [exOV x, .int .i64 a, .int .i64 b] (.bool (r4 a b))) : Pure E.P 24 [exOV x, .int .i64 6] (.d (pairsTV (refPairs x.evs.length (glob x r1 r2 r3 r4)))) := by
 have f2 : Frozen 2 := ⟨trivial⟩
 have hsq : x.evs.length * x.evs.length ≤ 16777216 := Nat.mul_le_mul hx hx
 refine fnA Tryz.func24 Tryz.ntmps24 ?_
 refine run ?_; refine aoR fun _ => ?_
 refine run ?_; refine aoR fun _ => ?_
 refine run ?_; refine aoR fun _ => ?_
 refine run ?_; refine aoR fun _ => ?_
 refine run ?_; rotate_left
 rename_i v5 _ _
 refine uS (X := Nat × Stamp × List (Int × Int)) (fun p => tmL [(1, .int .i64 6), (2, .d (.pt (exRow x) 0)), (5, .os 5 p.2.1 2 p.2.2.length), (6, .int .i64 x.evs.length), (7, .int .i64 p.1)]) (fun p => stL [(5, (p.2.1, ⟨2, p.2.2.map pairO'⟩))])
  (fun p => p.1 ≤ x.evs.length ∧ p.2.2 = prTo x.evs.length (glob x r1 r2 r3 r4) p.1) (fun p => x.evs.length - p.1) (0, (v5, 0), []) ⟨Nat.zero_le _, rfl⟩ (by repeat' (first | exact vH _ | exact vJ _ | refine uD rfl ?_ | refine uZ rfl ?_ | (refine uR rfl ?_ ?_; (simp)) | (refine uO rfl ?_ ?_; (simp)) | (refine uV rfl ?_ ?_; (simp)))) leP ?_
 rintro ⟨a, τ, l⟩ ⟨hk, hl⟩
 dsimp only at hk hl ⊢
 by_cases hlt : a < x.evs.length
 ·refine run ?_
  refine aoR fun _ => ?_; refine run ?_
  refine cnd ?_ ?_
  refine uH fun _ => ?_; try (exfalso; omega)
  refine run ?_; refine aoR fun _ => ?_
  refine run ?_; rotate_left
  refine uI fun _ => ?_; try (exfalso; omega)
  refine uS (X := Nat × Stamp × List (Int × Int)) (fun p => tmL [(1, .int .i64 6), (2, .d (.pt (exRow x) 0)), (5, .os 5 p.2.1 2 p.2.2.length), (6, .int .i64 x.evs.length), (7, .int .i64 a), (8, .int .i64 p.1)]) (fun p => stL [(5, (p.2.1, ⟨2, p.2.2.map pairO'⟩))])
   (fun p => p.1 ≤ x.evs.length ∧ p.2.2 = l ++ prRow (glob x r1 r2 r3 r4) a p.1) (fun p => x.evs.length - p.1) (0, τ, l) ⟨Nat.zero_le _, by simp [prRow]⟩ leP leP ?_
  rintro ⟨b, τ2, l2⟩ ⟨hk2, hl2⟩
  dsimp only at hk2 hl2 ⊢
  have hlen : l2.length ≤ 16777216 + 4096 := by
   rw [hl2, List.length_append, hl]
   have h1 := wQ x.evs.length (glob x r1 r2 r3 r4) a
   have h2 := kY (glob x r1 r2 r3 r4) a b
   have h3 : a * x.evs.length ≤ x.evs.length * x.evs.length := Nat.mul_le_mul hk (Nat.le_refl _)
   omega
  by_cases hlt2 : b < x.evs.length
  ·have u1 := hp1 a b hlt hlt2
   have u2 := hp2 a b hlt hlt2
   have u3 := hp3 a b hlt hlt2
   have u4 := hp4 a b hlt hlt2
   refine run ?_; refine aoR fun _ => ?_
   refine run ?_; refine cnd ?_ ?_
   refine uH fun _ => ?_; try (exfalso; omega)
   refine run ?_; refine aoR fun _ => ?_
   refine run ?_; refine aoR fun _ => ?_
   refine run ?_; refine aoR fun _ => ?_
   refine run ?_; refine cnd ?_ ?_
   refine uH fun _ => ?_; try (exfalso; omega)
   refine uI fun _ => ?_; try (exfalso; omega)
   refine run ?_; refine aoR fun _ => ?_
   refine run ?_; refine cnd ?_ ?_
   refine uH fun _ => ?_; try (exfalso; omega)
   refine uI fun _ => ?_; try (exfalso; omega)
   refine run ?_; refine aoR fun _ => ?_
   refine run ?_; refine cnd ?_ ?_
   refine uH fun _ => ?_; try (exfalso; omega)
   refine uI fun _ => ?_; try (exfalso; omega)
   refine run ?_; refine aoR fun _ => ?_
   refine run ?_; refine cnd ?_ ?_
   refine uH fun _ => ?_; try (exfalso; omega)
   refine uI fun _ => ?_; try (exfalso; omega)
   refine run ?_; refine aoR fun _ => ?_
   refine run ?_; refine cnd ?_ ?_
   refine uH fun _ => ?_; try (exfalso; omega)
   refine uI fun _ => ?_; try (exfalso; omega)
   refine run ?_; refine aoR fun _ => ?_
   refine run ?_; refine cnd ?_ ?_
   refine uH fun _ => ?_; try (exfalso; omega)
   refine uX (E := E) ?_ (fun _ => ?_); exact rfl
   refine run ?_
   apply wZ; exact rfl; exact .fn _ _ _; exact rfl; (exact u1)
   refine run ?_
   apply dpF; exact rfl
   intro hc_
   have hp_ := hc_; try simp only [nrm] at hp_
   apply vE; (exact EvM.plain rfl rfl); exact .fn _ _ _; exact vR; (exact u2)
   refine run ?_
   apply dpF; exact rfl
   intro hc_
   have hp_ := hc_; try simp only [nrm] at hp_
   apply vE; (exact EvM.plain rfl rfl); exact .fn _ _ _; exact vR; (exact u3)
   refine run ?_
   apply dpF; exact rfl
   intro hc_
   have hp_ := hc_; try simp only [nrm] at hp_
   apply vE; (exact EvM.plain rfl rfl); exact .fn _ _ _; exact vR; (exact u4)
   refine run ?_; refine aoR fun _ => ?_
   refine run ?_; refine cnd ?_ ?_
   refine wS (fun hc_ => ?_); (try simp only [nrm] at hc_)
   refine aoR fun _ => ?_; refine run ?_
   refine aoR fun _ => ?_; refine run ?_
   rotate_left
   iterate 3 refine wT ?_
   iterate 3 (refine gN (fun _ => ?_))
   refine wU (fun hc_ => ?_); (try simp only [nrm] at hc_)
   refine run ?_; refine aoR fun _ => ?_
   refine run ?_; rotate_left
   iterate 2 refine uI fun _ => ?_; try (exfalso; omega)
   ·rename_i v24 _
    have hy : glob x r1 r2 r3 r4 a b = true := by
     unfold glob
     simp only [Int.toNat_natCast] at hc_
     simp only [Bool.or_eq_true, Bool.and_eq_true, Bool.not_eq_true', decide_eq_false_iff_not]
     rcases hc_ with ((h9 | h9) | h9) | h9
     ·exact Or.inl (Or.inl (Or.inl h9))
     ·exact Or.inl (Or.inl (Or.inr h9))
     ·exact Or.inl (Or.inr h9)
     ·exact Or.inr h9
    exact uY (b + 1, (v24, 6), l2 ++ [((a : Int), (b : Int))]) ⟨by dsimp only; omega, by dsimp only; rw [hl2, prRow_yes hy, List.append_assoc]⟩ (by dsimp only; omega) (by repeat' (first | exact vH _ | exact vJ _ | refine uD rfl ?_ | refine uZ rfl ?_ | (refine uR rfl ?_ ?_; (simp <;> rfl)) | (refine uO rfl ?_ ?_; (simp <;> rfl)) | (refine uV rfl ?_ ?_; (simp <;> rfl)))) (by repeat' (first | exact vH _ | exact vJ _ | refine uD rfl ?_ | refine uZ rfl ?_ | (refine uR rfl ?_ ?_; (simp <;> rfl)) | (refine uO rfl ?_ ?_; (simp <;> rfl)) | (refine uV rfl ?_ ?_; (simp <;> rfl))))
   ·rename_i n1 n2 n3 _
    have hy : glob x r1 r2 r3 r4 a b = false := by
     unfold glob
     simp only [Int.toNat_natCast] at hc_
     rw [n1, n2, n3]
     rcases hc_ with h9 | h9
     ·rw [h9]; rfl
     ·rw [decide_eq_true h9]; simp
    exact uY (b + 1, τ2, l2) ⟨by dsimp only; omega, by dsimp only; rw [hl2, prRow_no (by rw [hy]; decide)]⟩ (by dsimp only; omega) leP leP
  ·have hb : b = x.evs.length := by omega
   subst hb
   refine run ?_; refine aoR fun _ => ?_
   refine run ?_; refine cnd ?_ ?_
   refine uH fun _ => ?_; try (exfalso; omega)
   refine uI fun _ => ?_; try (exfalso; omega)
   refine run ?_; refine aoR fun _ => ?_
   refine run ?_; rotate_left
   exact uY (a + 1, τ2, l2) ⟨by dsimp only; omega, by dsimp only; rw [hl2, kX, hl]⟩ (by dsimp only; omega) leP leP
 ·have f5 : Frozen 5 := ⟨trivial⟩
  have hfz := xT
  refine run ?_; refine aoR fun _ => ?_
  refine run ?_; refine cnd ?_ ?_
  refine uH fun _ => ?_; try (exfalso; omega)
  refine uI fun _ => ?_; try (exfalso; omega)
  refine run ?_; refine aoR fun _ => ?_
  refine run ?_; rotate_left
  refine dG rfl ?_
  have ha : a = x.evs.length := by omega
  rw [hl, ha]; rfl
def globB (x : Ex) : Nat → Nat → Bool := glob x (isPpo x) (isCoB x) (isFrB x) (isRf x)
def gloL (x : Ex) : List (Int × Int) := refPairs x.evs.length (globB x)
theorem rGlo_p {x : Ex} (h : x.rel) (hk : x.rok) : Pure E.P 24 [exOV x, .int .i64 6] (.d (pairsTV (gloL x))) :=
 rpairs6_p x (by have := h.len; omega) (isPpo x) (isCoB x) (isFrB x) (isRf x) (fun a b ha hb => rppo_p x hk a b ha hb)
  (fun a b ha hb => qS x (by have := h.len; omega) h.ord h.rows a b ha hb)
  (fun a b ha hb => risFr_p x (by have := h.len; omega) h.ord h.rows h.from_ h.src a b ha hb)
  (fun a b ha hb => risRf_p x (by have := h.len; omega) h.from_ a b ha hb)
theorem gloL_out (x : Ex) : (gloL x).any (outB x.evs.length) = false := by
 rw [List.any_eq_false]
 intro p hp
 obtain ⟨a, b, h1, h2, _, rfl⟩ := vG.1 hp
 unfold outB
 simp only [Bool.or_eq_true, decide_eq_true_eq]
 omega
theorem jJ {x : Ex} (h : x.rel) : (gloL x).length ≤ 4096 := Nat.le_trans (wQ x.evs.length (globB x) x.evs.length) (Nat.mul_le_mul h.len h.len)
set_option maxHeartbeats 4000000
set_option maxRecDepth 100000
open Go.RowKit Go.Maps
def JA (L : List (Int × Int)) (i nn : Nat) (D : DataW Unit) : Prop := nn ≤ i ∧ ∀ kl, has D kl = true ↔ ∃ p ∈ L.take i, kl = kpL p
noncomputable abbrev YA (L : List (Int × Int)) (g : Gh) (b : Nat) : YJ := mapY E.P 73 3 g b (JA L)
theorem JA.start (L : List (Int × Int)) : JA L 0 0 (.map []) := ⟨Nat.le_refl _, fun kl => by simp [Maps.has]⟩
theorem JA.step {L : List (Int × Int)} {i nn : Nat} {D : DataW Unit} (hm : IsMap D) (h : JA L i nn D) (hi : i < L.length) (d : DataW Unit) : JA L (i + 1) (nn + 1) (D.put (kpL (L.getD i default)) d) := by
 refine ⟨by have := h.1; omega, fun kl => ?_⟩
 rw [vZ L default i hi]
 by_cases e : kl = kpL (L.getD i default)
 ·subst e
  rw [has_put_same hm (show WideAt.IsKeyLit (kpL _) from trivial)]
  simp
 ·rw [has_put_other e, h.2 kl]
  constructor
  ·rintro ⟨p, h1, h2⟩; exact ⟨p, by simp [h1], h2⟩
  ·rintro ⟨p, h1, h2⟩
   rcases List.mem_append.1 h1 with h1 | h1
   ·exact ⟨p, h1, h2⟩
   ·simp only [List.mem_singleton] at h1
    subst h1
    exact (e h2).elim
theorem nH {a : Int} (h1 : 0 ≤ a) (h2 : a < 65536) : (Lit.int .i64 a).wf = true := by
 simp only [Lit.wf, IntKind.min, IntKind.max, IntKind.signed, IntKind.bits, Bool.and_eq_true, decide_eq_true_eq, if_true]
 omega
theorem oA {p : Int × Int} (h1 : 0 ≤ p.1) (h2 : p.1 < 65536) (h3 : 0 ≤ p.2) (h4 : p.2 < 65536) : IsKeyV E.P 73 (.ag ((pairTV p).map .d)) (kpL p) := fun G u hu => by
 rw [RepO] at hu
 obtain ⟨vs, rfl, h⟩ := hu
 unfold pairTV at h
 simp only [List.map_cons, List.map_nil] at h
 rw [RepOL] at h
 obtain ⟨v1, us, e1, q1, h⟩ := h
 rw [RepOL] at h
 obtain ⟨v2, us2, e2, q2, h⟩ := h
 rw [RepOL] at h
 subst h e2
 rw [vO q1, vO q2] at e1
 have : vs = #[.int .i64 p.1, .int .i64 p.2] := by rw [← Array.toList_inj, e1]
 rw [this]
 exact qZ (nH h1 h2) (nH h3 h4)
theorem pS (w : World) : (zeroValue 3).run E.P w = .ok (.int .i64 0) w := by kernel_rfl
set_option maxHeartbeats 4000000 in
theorem sJ (L l : List (Int × Int)) (hsm : smallP L) (hL : L.length ≤ 65536) (i : Nat) (hl : ∀ j, j < l.length → L.getD (i + j) default = l.getD j default) (hil : i + l.length ≤ L.length) (g : Gh) (b : Nat) :
  FnY E.P 64 [.d (pairsTV l), .d (.pt [.c (.map (some b))] 0)] (YA L g b) i (i + l.length) [] (· = []) := by
 have f4 : Frozen 4 := ⟨trivial⟩
 refine yD Tryz.func64 (by decide) rfl Tryz.ntmps64 (Nat.le_of_ble_eq_true rfl) rfl ?_
 refine run ?_; refine aoR fun _ => ?_
 refine run ?_; rotate_left
 refine uS (X := Nat) (fun k => tmL [(1, .d (.pt [.c (.map (some b))] 0)), (5, .d (pairsTV l)), (6, .int .i64 l.length), (7, .int .i64 k), (GS, .gh (i + k) (YA L g b))]) (fun _ => stL []) (fun k => k ≤ l.length) (fun k => l.length - k) 0 (Nat.zero_le _) leP leP ?_
 intro k hk
 by_cases hlt : k < l.length
 ·have hm : L.getD (i + k) default ∈ L := by
   rw [List.getD_eq_getElem?_getD, List.getElem?_eq_getElem (by omega)]; exact List.getElem_mem _
  have hp := hsm _ hm
  have he := hl k hlt
  have hkey : IsKeyV E.P 73 (.ag ((pairTV (l.getD k default)).map .d)) (kpL (L.getD (i + k) default)) := by
   rw [← he]; exact oA hp.1 hp.2.1 hp.2.2.1 hp.2.2.2
  refine run ?_; refine aoR fun _ => ?_
  refine run ?_; refine cnd ?_ ?_
  refine uH fun _ => ?_; try (exfalso; omega)
  refine run ?_; refine aoR fun _ => ?_
  refine run ?_
  refine rI (d := 11) (KT := 73) (IT := 3) mO Tryz.underlying92 Tryz.underlying3 pS rfl rfl rfl rfl rfl (by decide) (by decide) (by decide) rfl rfl hkey rfl (fun nn D c hm hJ => ⟨by have := hJ.1; unfold maxLen; omega, hJ.step hm (by omega) _⟩) ?_
  refine run ?_; refine aoR fun _ => ?_
  refine run ?_; rotate_left
  refine uI fun _ => ?_; try (exfalso; omega)
  exact uY (k + 1) (by omega) (by omega) leP leP
 ·refine run ?_
  refine aoR fun _ => ?_; refine run ?_
  refine cnd ?_ ?_
  refine uH fun _ => ?_; try (exfalso; omega)
  refine uI fun _ => ?_; try (exfalso; omega)
  refine run ?_; rotate_left
  have e : k = l.length := by omega
  subst e
  exact ⟨Or.inl rfl, rfl, [], rfl, vJ _⟩
theorem enters_keysP : ∀ args w, (callFunc 96 args).run Tryz.prog w = .ok (.enter 96 args) w := enters_of Tryz.func96 (by kernel_rfl) rfl
theorem sortedKeys_m (L : List (Int × Int)) (hL : L.length ≤ 65536) (n : Nat) (f : Nat → Nat → Bool) (hn : n ≤ 65536) (hm : ∀ p, p ∈ L ↔ p ∈ refPairs n f) (g : Gh) (b : Nat) :
  FnM E.P 66 [.fn 96 [] [.d (.pt [.c (.map (some b))] 0)], .fn 68 [] []] ((YA L g b).J L.length) (fun r' _ => r' = .d (pairsTV (refPairs n f))) := by
 refine ⟨⟨_, Tryz.func66, by decide, rfl⟩, fun G w vs N hJ hv hw => ?_⟩
 obtain ⟨nn, D, ⟨hnn, hD⟩, hown⟩ := hJ
 rw [List.take_length] at hD
 rw [RepOL] at hv
 obtain ⟨x1, us, rfl, h1, hv⟩ := hv
 rw [RepOL] at hv
 obtain ⟨x2, us, rfl, h2, hv⟩ := hv
 rw [RepOL] at hv
 subst hv
 rw [RepO] at h2
 obtain ⟨f1, f2, rfl, hf1, hf2⟩ := h2
 rw [RepOL] at hf1 hf2
 have hf1 : f1 = #[] := Array.toList_eq_nil_iff.1 hf1
 have hf2 : f2 = #[] := Array.toList_eq_nil_iff.1 hf2
 subst hf1 hf2
 rw [RepO] at h1
 obtain ⟨v1, u1, rfl, hv1, hu1⟩ := h1
 rw [RepOL] at hv1
 have hv1 : v1 = #[] := Array.toList_eq_nil_iff.1 hv1
 subst hv1
 rw [RepOL] at hu1
 obtain ⟨pv, us, e1, hp, hu1⟩ := hu1
 rw [RepOL] at hu1
 subst hu1
 have e1 : u1 = #[pv] := by rw [← Array.toList_inj, e1]
 subst e1
 rw [RepO, Rep] at hp
 obtain ⟨Bm, of, rfl, hc⟩ := hp
 rw [RepC] at hc
 obtain ⟨⟨mv, hM, hmv⟩, _⟩ := hc
 rw [Rep] at hmv
 obtain ⟨rfl, _⟩ := hmv
 rw [Nat.add_zero]
 have hcell := hw.mem _ _ _ hM
 have hBm : Bm < w.heap.size := (yQ hcell).2
 have hsm : ∀ kl, has D kl = true → ∃ x : P2, kl = kp x := fun kl hk => by
  obtain ⟨p, hp, rfl⟩ := (hD kl).1 hk
  obtain ⟨a, c, ha, hc, _, rfl⟩ := vG.1 ((hm p).1 hp)
  exact ⟨(⟨a, by omega⟩, ⟨c, by omega⟩), rfl⟩
 have hsize : Maps.size D ≤ 65536 := by have := hown.size_le; omega
 have hcall := callsIn_wide.1 (sortedFuncA_p 4 (by omega) _ #[.pointer (some ⟨Bm, of, none⟩)] enters_keysP KeepsWalks (KeysP D) (fun _ => True) (Maps.size D) (by omega) w walksK_t walksK_b (fun _ _ h _ => h.walks) (keysP_stops Fence.wide (fun _ => trivial) 1 rfl (by omega) Bm of b nn D hsm w hBm hcell hown))
 refine hcall.mono ?_
 rintro e w' ⟨v, ss, rfl, ⟨hnd, hk1, hk2⟩, _, hrow, hb⟩
 have hlist : (sortP ss).map toI = refPairs n f := by
  rw [fA]
  refine aY ?_ fun p => ?_
  ·refine List.pairwise_map.2 (hnd.imp fun {a c} h e => h ?_)
   unfold toI at e
   simp only [Prod.mk.injEq] at e
   exact Prod.ext (Fin.ext (by omega)) (Fin.ext (by omega))
  ·rw [← hm]
   constructor
   ·intro hp
    obtain ⟨x, hx, rfl⟩ := List.mem_map.1 hp
    obtain ⟨q, hq, e⟩ := (hD _).1 (hk1 x hx)
    obtain ⟨a, c, ha, hc, _, rfl⟩ := vG.1 ((hm q).1 hq)
    have : x = (⟨a, by omega⟩, ⟨c, by omega⟩) := pU e
    subst this
    exact hq
   ·intro hp
    obtain ⟨a, c, ha, hc, _, rfl⟩ := vG.1 ((hm p).1 hp)
    obtain ⟨x, hx, e⟩ := hk2 _ ((hD _).2 ⟨_, hp, rfl⟩)
    have : (⟨a, by omega⟩, ⟨c, by omega⟩) = x := pU e
    exact List.mem_map.2 ⟨x, hx, by rw [← this]; rfl⟩
 have hw1 := hw.below hb
 have hlen : (sortP ss).length = (refPairs n f).length := by rw [← hlist, List.length_map]
 rcases hrow.2 with ⟨rfl, hz⟩ | ⟨gb, cap, cur, rfl, hbase, hgb, r1, r2, r3, r4⟩
 ·refine ⟨_, G, _, Store.nil, rfl, rfl, .refl G, ?_, hw1⟩
  have : refPairs n f = [] := List.eq_nil_of_length_eq_zero (by omega)
  rw [RepO, this]
  unfold pairsTV
  rw [Rep]
  exact ⟨none, 0, rfl, Nat.le_refl _, Or.inl rfl⟩
 ·have hle : G.M.le (G.M.add gb cur) := fun b' o x hx => by
   have hlt := hw.mem_lt hx
   unfold Mem.add
   rw [if_neg (by omega)]
   exact hx
  have hcl : ∀ o x, cur[o]? = some x → w'.cell? ⟨gb, o, none⟩ = some x := fun o x hx => by
   simp [World.cell?, hgb, hx]
  refine ⟨_, ⟨G.M.add gb cur, G.μ⟩, _, Store.nil, rfl, rfl, ⟨hle, fun _ _ _ h => h⟩, ?_, hw1.grow hle (fun b' o x hx => ?_) (fun k τ r β o h => by cases h) (fun b' o x hx => ?_)⟩
  ·rw [RepO]
   unfold pairsTV
   rw [Rep]
   have hl2 : ((refPairs n f).map pairTV).length = (sortP ss).length := by rw [List.length_map, hlen]
   refine ⟨some ⟨gb, 0, none⟩, cap, by rw [hl2], by rw [hl2]; exact r1, Or.inr ⟨gb, 0, rfl, RepR.of_get fun i r hr => ?_⟩⟩
   rw [← hlist, List.map_map, List.getElem?_map] at hr
   obtain ⟨x, hx, rfl⟩ := Option.map_eq_some_iff.1 hr
   refine ⟨rfl, RepC.of_get fun o t ht => ?_⟩
   have hi : i < (sortP ss).length := (List.getElem?_eq_some_iff.1 hx).1
   have hxd : (sortP ss).getD i default = x := by rw [List.getD_eq_getElem?_getD, hx]; rfl
   have get : ∀ j, j < (sortP ss).length * 2 → cur[j]? = some ((encP ((sortP ss).getD (j / 2) default))[j % 2]!) := fun j hj => by
    rw [← zY _ j hj, ← r4, List.getElem?_take_of_lt hj, Array.getElem?_toList]
   have e0 := get (i * 2) (by omega)
   have e1 := get (i * 2 + 1) (by omega)
   rw [show i * 2 / 2 = i by omega, show i * 2 % 2 = 0 by omega, hxd] at e0
   rw [show (i * 2 + 1) / 2 = i by omega, show (i * 2 + 1) % 2 = 1 by omega, hxd] at e1
   have hM' : ∀ j x, cur[j]? = some x → (G.M.add gb cur) gb (0 + j) = some x := fun j x h => by
    unfold Mem.add; rw [if_pos rfl, Nat.zero_add]; exact h
   match o, ht with
   | 0, ht =>
    simp [pairTV, toI] at ht; subst ht
    exact ⟨_, hM' _ _ e0, by rw [Rep]; exact ⟨rfl, rfl⟩⟩
   | 1, ht =>
    simp [pairTV, toI] at ht; subst ht
    exact ⟨_, hM' _ _ e1, by rw [Rep]; exact ⟨rfl, rfl⟩⟩
  ·unfold Mem.add at hx
   split at hx
   ·rename_i e; subst e; exact hcl o x hx
   ·exact hw1.mem b' o x hx
  ·unfold Mem.add at hx
   split at hx
   ·rename_i e; subst e; exact Or.inr (Or.inl hbase)
   ·exact Or.inl hx
def hneB (x : Ex) (p : Int × Int) : Bool := !decide ((x.evs.getD p.1.toNat default).hart = (x.evs.getD p.2.toNat default).hart)
def arrL (x : Ex) : List (Int × Int) := ppoL x ++ coF x ++ frF x ++ (rfF x).filter (hneB x)
theorem sq_le {n : Nat} (h : n ≤ 64) : n * n ≤ 4096 := Nat.mul_le_mul h h
section
variable {x : Ex} (hx : x.rel)
include hx
theorem mS : (ppoL x).length ≤ 4096 ∧ (coF x).length ≤ 4096 ∧ (frF x).length ≤ 4096 ∧ (rfF x).length ≤ 4096 := by
 have h := sq_le hx.len
 have h1 := (show (refPairs _ _).length ≤ _ from wQ x.evs.length (isPpo x) x.evs.length)
 have h2 := (show (refPairs _ _).length ≤ _ from wQ x.evs.length (isCoB x) x.evs.length)
 have h3 := (show (refPairs _ _).length ≤ _ from wQ x.evs.length (isFrB x) x.evs.length)
 have h4 := (show (refPairs _ _).length ≤ _ from wQ x.evs.length (isRf x) x.evs.length)
 rw [iE hx, iC hx, bE hx.check]
 unfold ppoL
 omega
theorem arrL_len : (arrL x).length ≤ 65536 := by
 obtain ⟨h1, h2, h3, h4⟩ := mS hx
 have h5 := List.length_filter_le (hneB x) (rfF x)
 unfold arrL
 simp only [List.length_append]
 omega
theorem oF (p : Int × Int) : p ∈ arrL x ↔ p ∈ gloL x := by
 unfold arrL gloL ppoL
 rw [iE hx, iC hx, bE hx.check]
 simp only [List.mem_append, List.mem_filter, vG]
 constructor
 ·rintro (((⟨a, b, h1, h2, h3, rfl⟩ | ⟨a, b, h1, h2, h3, rfl⟩) | ⟨a, b, h1, h2, h3, rfl⟩) | ⟨⟨a, b, h1, h2, h3, rfl⟩, h4⟩) <;> refine ⟨a, b, h1, h2, ?_, rfl⟩ <;> unfold globB glob
  ·rw [h3]; rfl
  ·rw [h3]; simp
  ·rw [h3]; simp
  ·unfold hneB at h4
   simp only [Int.toNat_natCast] at h4
   rw [h3, h4]; simp
 ·rintro ⟨a, b, h1, h2, h3, rfl⟩
  unfold globB glob at h3
  simp only [Bool.or_eq_true, Bool.and_eq_true] at h3
  rcases h3 with ((h3 | h3) | h3) | ⟨h3, h4⟩
  ·exact Or.inl (Or.inl (Or.inl ⟨a, b, h1, h2, h3, rfl⟩))
  ·exact Or.inl (Or.inl (Or.inr ⟨a, b, h1, h2, h3, rfl⟩))
  ·exact Or.inl (Or.inr ⟨a, b, h1, h2, h3, rfl⟩)
  ·exact Or.inr ⟨⟨a, b, h1, h2, h3, rfl⟩, by unfold hneB; simpa using h4⟩
theorem arrL_small : smallP (arrL x) := fun p hp => by
 obtain ⟨a, b, h1, h2, _, rfl⟩ := vG.1 ((oF hx p).1 hp)
 have := hx.len
 dsimp only
 omega
end
theorem dE {L1 L2 : List (Int × Int)} {j : Nat} (h : j < L1.length) : (L1 ++ L2).getD j default = L1.getD j default := by
 rw [List.getD_eq_getElem?_getD, List.getElem?_append_left h, ← List.getD_eq_getElem?_getD]
theorem yC (L1 L2 : List (Int × Int)) (j : Nat) : (L1 ++ L2).getD (L1.length + j) default = L2.getD j default := by
 rw [List.getD_eq_getElem?_getD, List.getElem?_append_right (by omega), ← List.getD_eq_getElem?_getD]
 congr 1; omega
theorem bP {α : Type} (d : α) (f : α → Bool) : ∀ (l : List α) (k : Nat), k < l.length → f (l.getD k d) = true → (l.filter f).getD ((l.take k).filter f).length d = l.getD k d ∧ ((l.take k).filter f).length < (l.filter f).length
 | [], k, h, _ => by simp at h
 | a :: l, 0, _, h => by
  have h : f a = true := h
  simp [h]
 | a :: l, k + 1, hk, h => by
  obtain ⟨h1, h2⟩ := bP d f l k (by simpa using hk) (by simpa using h)
  cases ha : f a with
  | false => simp only [List.take_succ_cons, List.filter_cons, ha, Bool.false_eq_true, if_false, List.getD_cons_succ]; exact ⟨h1, h2⟩
  | true => simp only [List.take_succ_cons, List.filter_cons, ha, if_true, List.length_cons, List.getD_cons_succ]; exact ⟨h1, by omega⟩
theorem keysP_p (v : Value) (hv : v.oneCell' = true) : Pure E.P 67 [.d (.c v)] (.fn 96 [] [.d (.pt [.c v] 0)]) := by
 have f1 : Frozen 1 := ⟨trivial⟩
 refine fnA Tryz.func67 Tryz.ntmps67 ?_
 refine run ?_; refine aoR fun _ => ?_
 refine run ?_; refine aoR fun _ => ?_
 refine run ?_; rotate_left
 exact dG rfl rfl
set_option maxHeartbeats 4000000 in
theorem pD (x : Ex) (hx : x.rel) : Pure E.P 43 [jdOV x (rfF x) (coF x) (frF x)] (.d (pairsTV (gloL x))) := by
 have f1 : Frozen 1 := ⟨trivial⟩
 have f3 : Frozen 3 := ⟨trivial⟩
 have f8 : Frozen 8 := ⟨trivial⟩
 have hn := hx.len
 obtain ⟨l1, l2, l3, l4⟩ := mS hx
 have hL := arrL_len hx
 have hS := arrL_small hx
 have hP : Pure E.P 65 [exOV x] (.tu [.d (pairsTV (ppoL x)), .int .i64 0]) := by
  have := Ppo_p x hx.fit
  unfold ppoT at this
  rw [if_neg (by simp [hx.check])] at this
  exact this
 obtain ⟨M, hM⟩ : ∃ M, (rfF x).filter (hneB x) = M := ⟨_, rfl⟩
 have hLL : (arrL x).length = (ppoL x).length + (coF x).length + (frF x).length + M.length := by unfold arrL; rw [hM]; simp only [List.length_append]
 have a1 : ∀ g b, FnY E.P 64 [.d (pairsTV (ppoL x)), .d (.pt [.c (.map (some b))] 0)] (YA (arrL x) g b) 0 (0 + (ppoL x).length) [] (· = []) := sJ _ _ hS hL 0 (fun j hj => by
  unfold arrL; rw [Nat.zero_add, List.append_assoc, List.append_assoc, dE hj]) (by omega)
 have a2 : ∀ g b, FnY E.P 64 [.d (pairsTV (coF x)), .d (.pt [.c (.map (some b))] 0)] (YA (arrL x) g b) (0 + (ppoL x).length) (0 + (ppoL x).length + (coF x).length) [] (· = []) := sJ _ _ hS hL _ (fun j hj => by
  unfold arrL; rw [Nat.zero_add, List.append_assoc, List.append_assoc, yC, dE hj]) (by omega)
 have a3 : ∀ g b, FnY E.P 64 [.d (pairsTV (frF x)), .d (.pt [.c (.map (some b))] 0)] (YA (arrL x) g b) (0 + (ppoL x).length + (coF x).length) (0 + (ppoL x).length + (coF x).length + (frF x).length) [] (· = []) := sJ _ _ hS hL _ (fun j hj => by
  unfold arrL
  rw [Nat.zero_add, List.append_assoc, List.append_assoc, show (ppoL x).length + (coF x).length + j = (ppoL x).length + ((coF x).length + j) by omega, yC, yC, dE hj]) (by omega)
 have hK := sortedKeys_m (arrL x) hL x.evs.length (globB x) (by omega) (oF hx)
 refine fnA Tryz.func43 Tryz.ntmps43 ?_
 refine run ?_; refine aoR fun _ => ?_
 refine run ?_; refine aoR fun _ => ?_
 ((apply S_makeMap (JA (arrL x)) (JA.start _)); intro g b)
 refine run ?_; refine aoR fun _ => ?_
 refine run ?_; refine aoR fun _ => ?_
 refine run ?_
 apply uM; exact rfl; exact .fn _ _ _; exact rfl; exact hP
 refine run ?_; refine aoR fun _ => ?_
 refine run ?_
 apply mZ; exact rfl; (exact .fn _ _ _); exact rfl; exact rfl; (exact a1 _ _)
 refine run ?_; refine aoR fun _ => ?_
 refine run ?_
 apply mZ; exact rfl; (exact .fn _ _ _); exact rfl; exact rfl; (exact a2 _ _)
 refine run ?_; refine aoR fun _ => ?_
 refine run ?_
 apply mZ; exact rfl; (exact .fn _ _ _); exact rfl; exact rfl; (exact a3 _ _)
 refine run ?_; refine aoR fun _ => ?_
 refine run ?_; rotate_left
 refine uS (X := Nat) (fun k => tmL [(1, .d (.pt (jdRow x (rfF x) (coF x) (frF x)) 0)), (3, .d (.pt [.c (.map (some b))] 0)), (29, .d (pairsTV (rfF x))), (30, .int .i64 (rfF x).length), (31, .int .i64 k), (GS, .gh (0 + (ppoL x).length + (coF x).length + (frF x).length + (((rfF x).take k).filter (hneB x)).length) (YA (arrL x) g b))]) (fun _ => stL []) (fun k => k ≤ (rfF x).length) (fun k => (rfF x).length - k) 0 (Nat.zero_le _) leP leP ?_
 intro k hk
 by_cases hlt : k < (rfF x).length
 ·obtain ⟨a, c, ha, hc, e0⟩ : ∃ a c : Nat, a < x.evs.length ∧ c < x.evs.length ∧ (rfF x).getD k default = ((a : Int), (c : Int)) := by
   have : (rfF x).getD k default ∈ refPairs x.evs.length (isRf x) := by
    rw [← bE hx.check, List.getD_eq_getElem?_getD, List.getElem?_eq_getElem hlt]; exact List.getElem_mem hlt
   obtain ⟨a, c, h1, h2, _, h3⟩ := vG.1 this
   exact ⟨a, c, h1, h2, h3⟩
  have e1 : ((rfF x).getD (k : Int).toNat default).1 = (a : Int) := by rw [Int.toNat_natCast, e0]
  have e2 : ((rfF x).getD (k : Int).toNat default).2 = (c : Int) := by rw [Int.toNat_natCast, e0]
  have b1 : 0 ≤ ((rfF x).getD (k : Int).toNat default).1 ∧ ((rfF x).getD (k : Int).toNat default).1 < x.evs.length := by omega
  have b2 : 0 ≤ ((rfF x).getD (k : Int).toNat default).2 ∧ ((rfF x).getD (k : Int).toNat default).2 < x.evs.length := by omega
  have htk := vZ (rfF x) default k hlt
  have hkey : IsKeyV E.P 73 (.ag ((pairTV ((rfF x).getD k default)).map .d)) (kpL ((rfF x).getD k default)) := by
   rw [e0]; exact oA (by dsimp only; omega) (by dsimp only; omega) (by dsimp only; omega) (by dsimp only; omega)
  have hidx : hneB x ((rfF x).getD k default) = true → (arrL x).getD (0 + (ppoL x).length + (coF x).length + (frF x).length + (((rfF x).take k).filter (hneB x)).length) default = (rfF x).getD k default ∧ (((rfF x).take k).filter (hneB x)).length < M.length := fun h => by
   obtain ⟨q1, q2⟩ := bP default (hneB x) (rfF x) k hlt h
   rw [hM] at q1 q2
   refine ⟨?_, q2⟩
   rw [← q1]
   unfold arrL
   rw [hM, List.append_assoc, List.append_assoc, show 0 + (ppoL x).length + (coF x).length + (frF x).length + (((rfF x).take k).filter (hneB x)).length = (ppoL x).length + ((coF x).length + ((frF x).length + (((rfF x).take k).filter (hneB x)).length)) by omega, yC, yC, yC]
  by_cases hne : hneB x ((rfF x).getD k default) = true
  ·obtain ⟨i1, i2⟩ := hidx hne
   have hkey2 : IsKeyV E.P 73 (.ag ((pairTV ((rfF x).getD k default)).map .d)) (kpL ((arrL x).getD (0 + (ppoL x).length + (coF x).length + (frF x).length + (((rfF x).take k).filter (hneB x)).length) default)) := by rw [i1]; exact hkey
   have hcnt : (((rfF x).take (k + 1)).filter (hneB x)).length = (((rfF x).take k).filter (hneB x)).length + 1 := by
    rw [htk, List.filter_append, List.filter_cons, if_pos hne]; simp
   have hne' : ¬ (x.evs.getD ((rfF x).getD k default).1.toNat default).hart = (x.evs.getD ((rfF x).getD k default).2.toNat default).hart := by unfold hneB at hne; simpa using hne
   refine run ?_; refine aoR fun _ => ?_
   refine run ?_; refine cnd ?_ ?_
   refine uH fun _ => ?_; try (exfalso; omega)
   refine run ?_; refine aoR fun _ => ?_
   refine run ?_
   refine uX (E := E) ?_ (fun _ => ?_); exact rfl
   refine run ?_; refine cnd ?_ ?_
   refine wB (fun _ => ?_); (try (exfalso; omega))
   refine rI (d := 52) (KT := 73) (IT := 3) mO Tryz.underlying92 Tryz.underlying3 pS rfl rfl rfl rfl rfl (by decide) (by decide) (by decide) rfl rfl hkey2 rfl (fun nn D c hm hJ => ⟨by have := hJ.1; unfold maxLen; omega, hJ.step hm (by omega) _⟩) ?_
   refine run ?_; refine aoR fun _ => ?_
   refine run ?_; rotate_left
   refine vV (fun _ => ?_); (try (exfalso; omega))
   refine run ?_; refine aoR fun _ => ?_
   refine run ?_; rotate_left
   refine uI fun _ => ?_; try (exfalso; omega)
   ·exact uY (k + 1) (by omega) (by omega) (uD rfl (uD rfl (uD rfl (uD rfl (uD rfl (uD (by rw [hcnt]; rfl) (vH _))))))) leP
   ·rename_i hh _
    exact (hne' hh).elim
  ·have hcnt : (((rfF x).take (k + 1)).filter (hneB x)).length = (((rfF x).take k).filter (hneB x)).length := by
    rw [htk, List.filter_append, List.filter_cons, if_neg hne]; simp
   have hne' : (x.evs.getD ((rfF x).getD k default).1.toNat default).hart = (x.evs.getD ((rfF x).getD k default).2.toNat default).hart := by unfold hneB at hne; simpa using hne
   refine uQ ?_; refine aoR fun _ => ?_
   refine uQ ?_; refine cnd ?_ ?_
   refine uH fun _ => ?_; try (exfalso; omega)
   refine uQ ?_; refine aoR fun _ => ?_
   refine uQ ?_
   refine uX (E := E) ?_ (fun _ => ?_); exact rfl
   refine uQ ?_; refine cnd ?_ ?_
   refine wB (fun _ => ?_); (try (exfalso; omega))
   refine uX (E := E) ?_ (fun _ => ?_); exact rfl
   refine uQ ?_; rotate_left
   refine vV (fun _ => ?_); (try (exfalso; omega))
   refine uQ ?_; refine aoR fun _ => ?_
   refine uQ ?_; rotate_left
   refine uI fun _ => ?_; try (exfalso; omega)
   ·rename_i hh _
    exact (hh hne').elim
   ·exact uY (k + 1) (by omega) (by omega) (uD rfl (uD rfl (uD rfl (uD rfl (uD rfl (uD (by rw [hcnt]; rfl) (vH _))))))) leP
 ·have hi : 0 + (ppoL x).length + (coF x).length + (frF x).length + (((rfF x).take k).filter (hneB x)).length = (arrL x).length := by
   rw [show k = (rfF x).length by omega, List.take_length, hM]; omega
  have hK' := hK g b
  rw [← hi] at hK'
  refine run ?_; refine aoR fun _ => ?_
  refine run ?_; refine cnd ?_ ?_
  refine uH fun _ => ?_; try (exfalso; omega)
  refine uI fun _ => ?_; try (exfalso; omega)
  refine run ?_; refine aoR fun _ => ?_
  refine run ?_
  apply uM; exact rfl; exact .fn _ _ _; exact rfl; exact keysP_p _ rfl
  apply rO; exact rfl; exact .fn _ _ _; exact rfl; exact rfl; exact hK'
  refine run ?_; rotate_left
  exact dG rfl rfl
set_option maxRecDepth 100000
section
variable {E : Env} {V J : Nat} {ty : TypeId} {pos : String} {af : Array Edge} {gd : Option (Nat × Bool)} {tm : Tm} {σ : Store}
end
structure RenOf (d : Nat) : Prop where
 on : True
variable {E : Env} {v j : Nat} {ops : Array Oper} {K : Tm → Store → Prop} {KD : List Foot → Tm → Store → Prop} {acc : List Foot} {rest : List Oper} {tm : Tm} {σ : Store} {ty : TypeId} {pos : String} {af : Array Edge} {gd : Option (Nat × Bool)}
end Go.Proofs.YtnkocjkkefnelaaGreat
set_option maxHeartbeats 4000000
set_option maxRecDepth 100000
namespace Go.Proofs.YtnkocjkkefnelaaGreat
open Go.RowKit
open Go.RowKit Go.Lib
set_option maxHeartbeats 2000000 in
theorem grow_zero (w : World) : Calls Tryz.prog 90 #[.slice none 0 0, .int .i64 0] w fun e w' => e = .returned (.slice none 0 0) ∧ w' = w := by
 go_enter Tryz.func90, Tryz.ntmps90
 go_wp2
 go_ret
 exact ⟨rfl, rfl⟩
set_option maxHeartbeats 2000000 in
theorem grow_more (n : Nat) (h0 : 0 < n) (hn : n ≤ 65536) (w : World) : Calls Tryz.prog 90 #[.slice none 0 0, .int .i64 n] w fun e w' =>
  ∃ cs : Array Value, cs.size = grownCap w n 0 73 * 2 ∧ e = .returned (.slice (some ⟨w.heap.size, 0, none⟩) 0 (grownCap w n 0 73)) ∧ w' = w.drew.alloc (.cells cs 73) := by
 obtain ⟨i0, hi, jz0, jz1, jz2⟩ := info_parts rY
 have h1 : ¬ ((n : Int) < 0) := by omega
 have h2 : RowKit.wrap64 ((0 : Int) - (0 : Int)) = 0 := by unfold RowKit.wrap64; omega
 have h3 : RowKit.wrap64 ((n : Int) - (0 : Int)) = (n : Int) := by unfold RowKit.wrap64; omega
 have h4 : (n : Int) > 0 := by omega
 have hGn : n ≤ grownCap w n 0 73 := grownCap_ge w _ _ _
 have hrz : ∀ ty, (Builtin.append_ #[51, 3] ty #[.slice none 0 0, .int .i64 (n : Int)]).run Tryz.prog w =
   .ok (.slice (some ⟨w.heap.size, 0, none⟩) n (grownCap w n 0 73)) (w.drew.alloc (.cells ((#[] : Array Value) ++ Builtin.zeroCells (Value.agg #[.int .i64 0, .int .i64 0]).cells n ++ Builtin.zeroCells (Value.agg #[.int .i64 0, .int .i64 0]).cells (grownCap w n 0 73 - n)) 73)) := fun ty => by
  have h := Lib.run_append_grow_zeros w 51 3 ty 73 i0 _ .i64 .i64 Tryz.underlying51 Tryz.underlying3 hi jz0 none 0 0 [] (run_firstCells_none w.drew i0.size 0 0 0) n h0 (by omega) (by omega) (by omega) (by rw [jz2]; omega) (growslice_fits (by omega) (by rw [jz2]; omega))
  simpa using h
 have hcs : ((#[] : Array Value) ++ Builtin.zeroCells (Value.agg #[.int .i64 0, .int .i64 0]).cells n ++ Builtin.zeroCells (Value.agg #[.int .i64 0, .int .i64 0]).cells (grownCap w n 0 73 - n)).size = grownCap w n 0 73 * 2 := by
  simp only [Array.size_append, List.size_toArray, List.length_nil, size_zeroCells, Value.cells, List.length_cons]
  omega
 obtain ⟨CS, hCS⟩ : ∃ CS, ((#[] : Array Value) ++ Builtin.zeroCells (Value.agg #[.int .i64 0, .int .i64 0]).cells n ++ Builtin.zeroCells (Value.agg #[.int .i64 0, .int .i64 0]).cells (grownCap w n 0 73 - n)) = CS := ⟨_, rfl⟩
 rw [hCS] at hcs
 simp only [hCS] at hrz
 obtain ⟨Gc, hG⟩ : ∃ Gc, grownCap w n 0 73 = Gc := ⟨_, rfl⟩
 rw [hG] at hcs hGn ⊢
 simp only [hG] at hrz
 have hG63 : Gc ≤ 9223372036854775807 := by
  have := grownCap_le_maxLen w n 0 73 (by unfold maxLen; omega)
  rw [hG] at this
  unfold maxLen at this
  omega
 clear hCS hG
 go_enter Tryz.func90, Tryz.ntmps90
 go_wp2_with (at_builtin; refine Lib.wpList_append_run _ rfl _ _ _ _ rfl _ _ rfl rfl _ _ (hrz _) ?_)
 all_goals (go_ret; exact ⟨CS, hcs, rfl, rfl⟩)
theorem rZ (n : Nat) (hn : n ≤ 65536) : Own E.P 90 [.d (.c (.slice none 0 0)), .int .i64 n] 2 [] := by
 refine ⟨⟨_, Tryz.func90, by decide, rfl⟩, fun G w vs N hv hw => ?_⟩
 rw [RepOL] at hv
 obtain ⟨x1, us, rfl, h1, hv⟩ := hv
 rw [RepOL] at hv
 obtain ⟨x2, us, rfl, h2, hv⟩ := hv
 rw [RepOL] at hv
 subst hv
 have e1 := vO h1
 have e2 := vO h2
 subst e1 e2
 obtain ⟨v, hv, hf⟩ := hw.free
 rcases Nat.eq_zero_or_pos n with h0 | h0
 ·subst h0
  refine (grow_zero w).mono ?_
  rintro e w' ⟨rfl, rfl⟩
  exact ⟨_, _, .os 0 (v, 0) 2 0, _, rfl, ⟨0, (v, 0), rfl, Store.put_self _ _ _⟩, Gh.name_le G none (hf 0 0), by rw [RepO]; exact Or.inr ⟨Gh.name_self _ _ _ _, rfl, rfl⟩, hw.phantom 0 hv (hf 0 0) 2⟩
 ·refine (grow_more n h0 hn w).mono ?_
  rintro e w' ⟨cs, hcs, rfl, rfl⟩
  have hc := grownCap_le_maxLen w n 0 73 (by unfold maxLen; omega)
  have hw2 := (hw.drawn (w.drawn + 1)).alloc 0 hv (hf 0 0) cs 73 ⟨2, []⟩ (by simp) (fun i row hi => by simp at hi)
  exact ⟨_, _, .os 0 (v, 0) 2 0, _, rfl, ⟨0, (v, 0), rfl, Store.put_self _ _ _⟩, Gh.name_le G _ (hf 0 0), by rw [RepO]; exact Or.inl ⟨_, _, Gh.name_self _ _ _ _, rfl, Nat.zero_le _, hcs, hc⟩, hw2⟩
theorem lN (ls : List (List (Int × Int))) (k : Nat) (h : k < ls.length) : (ls.take (k + 1)).flatten = (ls.take k).flatten ++ ls.getD k default := by
 rw [vZ ls default k h, List.flatten_append]; simp
theorem iD (ls : List (List (Int × Int))) (k : Nat) : ((ls.take k).flatten).length ≤ ls.flatten.length := by
 have h : ls = ls.take k ++ ls.drop k := (List.take_append_drop k ls).symm
 have := congrArg (fun l : List (List (Int × Int)) => l.flatten.length) h
 simp only [List.flatten_append, List.length_append] at this
 omega
def catRow (l : List (Int × Int)) : List TV := [pairsTV l]
set_option maxHeartbeats 4000000 in
theorem concat_o (ls : List (List (Int × Int))) (hl : ls.flatten.length ≤ 65536) (hn : ls.length ≤ 64) : Own E.P 60 [.d (.sl 1 (ls.map catRow))] 2 (ls.flatten.map pairO') := by
 have hG := fun n hn => rZ n hn
 refine fnA Tryz.func60 Tryz.ntmps60 ?_
 refine run ?_; refine aoR fun _ => ?_
 refine run ?_; refine aoR fun _ => ?_
 refine run ?_; refine aoR fun _ => ?_
 refine run ?_; rotate_left
 refine uS (X := Nat) (fun k => tmL [(0, .d (.sl 1 (ls.map catRow))), (3, .int .i64 ((ls.take k).flatten).length), (9, .d (.sl 1 (ls.map catRow))), (10, .int .i64 ls.length), (11, .int .i64 k)]) (fun _ => stL []) (fun k => k ≤ ls.length) (fun k => ls.length - k) 0 (Nat.zero_le _) (by repeat' (first | exact vH _ | exact vJ _ | refine uD rfl ?_ | refine uZ rfl ?_ | (refine uR rfl ?_ ?_; (simp)) | (refine uO rfl ?_ ?_; (simp)) | (refine uV rfl ?_ ?_; (simp)))) leP ?_
 intro k hk
 have hfl := iD ls k
 by_cases hlt : k < ls.length
 ·have hfl1 := iD ls (k + 1)
  have hft := congrArg List.length (lN ls k hlt)
  rw [List.length_append] at hft
  have hA : ((ls.take k).flatten).length + (ls.getD (k : Int).toNat default).length ≤ 65536 := by rw [Int.toNat_natCast]; omega
  refine run ?_; refine aoR fun _ => ?_
  refine run ?_; refine cnd ?_ ?_
  refine uH fun _ => ?_; try (exfalso; omega)
  refine run ?_; refine aoR fun _ => ?_
  refine run ?_; refine aoR fun _ => ?_
  refine run ?_; refine aoR fun _ => ?_
  refine run ?_; refine cnd ?_ ?_
  refine uH fun _ => ?_; try (exfalso; omega)
  refine uI fun _ => ?_; try (exfalso; omega)
  refine run ?_; refine aoR fun _ => ?_
  refine run ?_; rotate_left
  refine uI fun _ => ?_; try (exfalso; omega)
  refine uY (k + 1) (by omega) (by omega) ?_ leP
  refine uD rfl (uD ?_ (uD rfl (uD rfl (uD rfl (vH _)))))
  show some (OV.int .i64 _) = some (OV.int .i64 _)
  rw [hft]; rfl
 ·have hkl : k = ls.length := by omega
  subst hkl
  rw [List.take_length]
  refine run ?_; refine aoR fun _ => ?_
  refine run ?_; refine cnd ?_ ?_
  refine uH fun _ => ?_; try (exfalso; omega)
  refine uI fun _ => ?_; try (exfalso; omega)
  refine run ?_; refine aoR fun _ => ?_
  refine run ?_
  apply eX; exact rfl; exact .fn _ _ _; exact rfl; exact rZ _ hl
  refine run ?_; refine aoR fun _ => ?_
  refine run ?_; rotate_left
  rename_i v24 _
  refine uS (X := Nat × Stamp) (fun p => tmL [(6, .os 6 p.2 2 ((ls.take p.1).flatten).length), (25, .d (.sl 1 (ls.map catRow))), (26, .int .i64 ls.length), (27, .int .i64 p.1)]) (fun p => stL [(6, (p.2, ⟨2, ((ls.take p.1).flatten).map pairO'⟩))]) (fun p => p.1 ≤ ls.length) (fun p => ls.length - p.1) (0, (v24, 2)) (Nat.zero_le _) (by repeat' (first | exact vH _ | exact vJ _ | refine uD rfl ?_ | refine uZ rfl ?_ | (refine uR rfl ?_ ?_; (simp)) | (refine uO rfl ?_ ?_; (simp)) | (refine uV rfl ?_ ?_; (simp)))) (by repeat' (first | exact vH _ | exact vJ _ | refine uD rfl ?_ | refine uZ rfl ?_ | (refine uR rfl ?_ ?_; (simp)) | (refine uO rfl ?_ ?_; (simp)) | (refine uV rfl ?_ ?_; (simp)))) ?_
  rintro ⟨k, τ⟩ hk
  dsimp only at hk ⊢
  have hfl := iD ls k
  by_cases hlt : k < ls.length
  ·have hfl1 := iD ls (k + 1)
   have hft0 := lN ls k hlt
   have hft := congrArg List.length hft0
   rw [List.length_append] at hft
   have hA : ((ls.take k).flatten).length + (ls.getD (k : Int).toNat default).length ≤ 65536 := by rw [Int.toNat_natCast]; omega
   refine run ?_; refine aoR fun _ => ?_
   refine run ?_; refine cnd ?_ ?_
   refine uH fun _ => ?_; try (exfalso; omega)
   refine run ?_; refine aoR fun _ => ?_
   refine run ?_; refine aoR fun _ => ?_
   refine run ?_; refine aoR fun _ => ?_
   refine run ?_; rotate_left
   refine uI fun _ => ?_; try (exfalso; omega)
   rename_i v33 _
   refine uY (k + 1, (v33, 3)) (by dsimp only; omega) (by dsimp only; omega) ?_ ?_
   ·refine uD ?_ (uD rfl (uD rfl (uD rfl (vH _))))
    show some (OV.os 6 _ 2 _) = some (OV.os 6 _ 2 _)
    rw [hft, List.length_map, List.length_map, List.length_map]; rfl
   ·refine uZ ?_ (vJ _)
    show some (_, Row.mk 2 _) = some (_, Row.mk 2 _)
    rw [hft0, List.map_append, List.map_map]; rfl
  ·have hkl : k = ls.length := by omega
   subst hkl
   rw [List.take_length]
   refine run ?_; refine aoR fun _ => ?_
   refine run ?_; refine cnd ?_ ?_
   refine uH fun _ => ?_; try (exfalso; omega)
   refine uI fun _ => ?_; try (exfalso; omega)
   refine run ?_; refine aoR fun _ => ?_
   refine run ?_; rotate_left
   refine wO (d := 2) rfl rfl rfl ?_
   first | exact (List.length_map ..).symm | exact List.length_map ..
set_option maxHeartbeats 4000000
set_option maxRecDepth 100000
def cohG (x : Ex) (p : Int × Int) : Bool := !decide ((x.evs.getD p.1.toNat default).kind = 4) && !decide ((x.evs.getD p.2.toNat default).kind = 4) && decide ((x.evs.getD p.1.toNat default).addr = (x.evs.getD p.2.toNat default).addr)
def cohL (x : Ex) : List (Int × Int) := refPairs x.evs.length (isRf x) ++ refPairs x.evs.length (isCoB x) ++ refPairs x.evs.length (isFrB x)
def rcohL (x : Ex) : List (Int × Int) := cohL x ++ (refPairs x.evs.length (isPo x)).filter (cohG x)
theorem yN {n : Nat} {f : Nat → Nat → Bool} {p : Int × Int} (h : p ∈ refPairs n f) : outB n p = false := by
 obtain ⟨a, b, h1, h2, _, rfl⟩ := vG.1 h
 unfold outB
 simp only [Bool.or_eq_false_iff, decide_eq_false_iff_not]
 omega
theorem rcohL_out (x : Ex) : (rcohL x).any (outB x.evs.length) = false := by
 rw [List.any_eq_false]
 intro p hp
 have : outB x.evs.length p = false := by
  unfold rcohL cohL at hp
  simp only [List.mem_append] at hp
  rcases hp with ((h | h) | h) | h
  ·exact yN h
  ·exact yN h
  ·exact yN h
  ·exact yN (List.mem_filter.1 h).1
 rw [this]; decide
namespace Ren
end Ren
end Go.Proofs.YtnkocjkkefnelaaGreat
