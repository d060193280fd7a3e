/- What must stay in order where a fence of all things stands behind each event. Plain. -/
import Derived.Test.YtnghoibkjphfmaaGreatPe3
import Derived.Test.YtnghoibkjphfmaaGreatPe8
import Derived.Test.YtnghoibkjphfmaaGreatPe9
namespace Go.Proofs.YtnghoibkjphfmaaGreat
theorem ltZ_ext {l l' : List (Int × Int)} (h1 : l.Pairwise fun x y => ltZ x y = true) (h2 : l'.Pairwise fun x y => ltZ x y = true) (hm : ∀ p, p ∈ l ↔ p ∈ l') : l = l' := by
  have nd : ∀ l : List (Int × Int), l.Pairwise (fun x y => ltZ x y = true) → l.Nodup := fun l h => h.imp fun {a b} hab e => by
    subst e
    rw [ltZ_iff] at hab
    omega
  have hp : l.Perm l' := (List.perm_ext_iff_of_nodup (nd l h1) (nd l' h2)).2 hm
  exact hp.eq_of_pairwise (fun a b _ _ h3 h4 => by rw [ltZ_iff] at h3 h4; omega) h1 h2
theorem kinds_of {e : Ev} (h : e.bareB = true) (h4 : e.kind ≠ 4) (h5 : e.kind ≠ 5) : e.stB = true ∨ e.ldB = true := by
  unfold Ev.bareB at h
  unfold Ev.stB Ev.ldB
  grind
section
variable {x : Ex} {k : Nat}
theorem fw_isPpo (h : Wh x k) {A B : Nat} (hA : A < fwN x k) (hB : B < fwN x k) : isPpo (fwd x k) A B = true ↔ ∃ a b, a < x.evs.length ∧ b < x.evs.length ∧ isPo x a b = true ∧ A = atN k a ∧ B = atN k b := by
  constructor
  · intro hp
    unfold isPpo at hp
    obtain ⟨r, _, hr⟩ := List.any_eq_true.1 hp
    unfold ruleB at hr
    rw [Bool.and_eq_true] at hr
    have hpo := hr.1
    unfold pairOf accB at hpo
    simp only [Bool.and_eq_true, decide_eq_true_eq, Bool.not_eq_true', decide_eq_false_iff_not] at hpo
    obtain ⟨⟨⟨⟨a1, a2⟩, ⟨b1, b2⟩⟩, hlt⟩, hh⟩ := hpo
    have fA : isFn k A = false := by
      cases hf : isFn k A with
      | false => rfl
      | true => rw [fw_fn hA hf] at a2; exact (a2 rfl).elim
    have fB : isFn k B = false := by
      cases hf : isFn k B with
      | false => rfl
      | true => rw [fw_fn hB hf] at b2; exact (b2 rfl).elim
    have oA := org_lt (k := k) (n := x.evs.length) hA
    have oB := org_lt (k := k) (n := x.evs.length) hB
    have eA := at_org fA
    have eB := at_org fB
    rw [← eA, fw_at oA] at a1 hh
    rw [← eB, fw_at oB] at hh
    refine ⟨_, _, oA, oB, ?_, eA.symm, eB.symm⟩
    unfold isPo
    simp only [Bool.and_eq_true, decide_eq_true_eq]
    refine ⟨⟨?_, a1⟩, hh⟩
    rcases Nat.lt_trichotomy (orgN k A) (orgN k B) with e | e | e
    · exact e
    · rw [← eA, ← eB, e] at hlt; omega
    · have := @atN_lt k _ _ e
      omega
  · rintro ⟨a, b, ha, hb, hp, rfl, rfl⟩
    unfold isPo at hp
    simp only [Bool.and_eq_true, decide_eq_true_eq] at hp
    obtain ⟨⟨hlt, h0⟩, hh⟩ := hp
    have ka := (h.hart ha).1 h0
    have k4a := h.nof a ha
    have k4b := h.nof b hb
    have oka := evOk_facts (h.at_ ha)
    have okb := evOk_facts (h.at_ hb)
    have fa := oka.2.2.2.2.2.2 (by rw [h.k]; omega)
    have fb := okb.2.2.2.2.2.2 (by rw [h.k]; omega)
    unfold isPpo
    refine List.any_eq_true.2 ⟨4, by decide, ?_⟩
    unfold ruleB
    rw [Bool.and_eq_true]
    constructor
    · unfold pairOf accB
      rw [fw_at ha, fw_at hb]
      simp only [Bool.and_eq_true, decide_eq_true_eq, Bool.not_eq_true', decide_eq_false_iff_not]
      exact ⟨⟨⟨⟨h0, k4a⟩, ⟨by show 0 ≤ (x.evs.getD b default).hart; omega, k4b⟩⟩, atN_lt hlt⟩, hh⟩
    · unfold ruleR
      rw [if_neg (by decide), if_neg (by decide), if_neg (by decide), if_pos rfl]
      unfold someB
      have hm : atN k a + 1 < atN k b := by unfold atN; omega
      refine List.any_eq_true.2 ⟨atN k a + 1, List.mem_range.2 hm, ?_⟩
      have hf : isFn k (atN k a + 1) = true := by
        unfold isFn atN
        simp only [Bool.and_eq_true, decide_eq_true_eq]
        omega
      rw [Bool.and_eq_true]
      refine ⟨decide_eq_true (by omega), ?_⟩
      unfold hit4
      rw [fw_fn (by omega) hf, fw_at ha, fw_at hb]
      have e1 := kinds_of oka.1 k4a fa.1
      have e2 := kinds_of okb.1 k4b fb.1
      show (decide ((4 : Int) = 4) && inB 3 (mvE k _) && inB 3 (mvE k _)) = true
      unfold inB
      rw [(mv_facts _).2.1, (mv_facts _).2.2, (mv_facts _).2.1, (mv_facts _).2.2]
      generalize (x.evs.getD a default).stB = s1 at e1 ⊢
      generalize (x.evs.getD a default).ldB = l1 at e1 ⊢
      generalize (x.evs.getD b default).stB = s2 at e2 ⊢
      generalize (x.evs.getD b default).ldB = l2 at e2 ⊢
      revert e1 e2
      cases s1 <;> cases l1 <;> cases s2 <;> cases l2 <;> decide
theorem fw_pairs (h : Wh x k) : refPairs (fwd x k).evs.length (isPpo (fwd x k)) = (refPairs x.evs.length (isPo x)).map fun p => (atZ k p.1, atZ k p.2) := by
  refine ltZ_ext (refPairs_lt _ _) ?_ fun p => ?_
  · rw [List.pairwise_map]
    refine (refPairs_lt _ _).imp_of_mem fun {p q} hp hq hlt => ?_
    obtain ⟨a, b, _, _, _, rfl⟩ := mem_refPairs.1 hp
    obtain ⟨c, d, _, _, _, rfl⟩ := mem_refPairs.1 hq
    rw [ltZ_iff] at hlt ⊢
    dsimp only at hlt ⊢
    rw [atZ_nat, atZ_nat, atZ_nat, atZ_nat]
    rcases hlt with e | ⟨e1, e2⟩
    · have := @atN_lt k a c (by omega); omega
    · have e3 : a = c := by omega
      have := @atN_lt k b d (by omega)
      subst e3; omega
  · rw [mem_refPairs, List.mem_map]
    constructor
    · rintro ⟨A, B, hA, hB, hp, rfl⟩
      rw [fw_len] at hA hB
      obtain ⟨a, b, ha, hb, h3, rfl, rfl⟩ := (fw_isPpo h hA hB).1 hp
      exact ⟨((a : Int), (b : Int)), mem_refPairs.2 ⟨a, b, ha, hb, h3, rfl⟩, by rw [atZ_nat, atZ_nat]⟩
    · rintro ⟨p, hp, rfl⟩
      obtain ⟨a, b, ha, hb, h3, rfl⟩ := mem_refPairs.1 hp
      have hA : atN k a < fwN x k := atN_lt ha
      have hB : atN k b < fwN x k := atN_lt hb
      exact ⟨atN k a, atN k b, by rw [fw_len]; exact hA, by rw [fw_len]; exact hB, (fw_isPpo h hA hB).2 ⟨a, b, ha, hb, h3, rfl, rfl⟩, by rw [atZ_nat, atZ_nat]⟩
theorem mvE_ok {e : Ev} (h : e.ok) : (mvE k e).ok := by
  obtain ⟨h1, h2, h3, h4, h5, h6, h7⟩ := h
  exact ⟨h1, by simpa [mvE, mvL] using h2, by simpa [mvE, mvL] using h3, by simpa [mvE, mvL] using h4, by simpa [mvE, mvL] using h5, by simpa [mvE, mvL] using h6, by simpa [mvE, mvL] using h7⟩
theorem fw_ok (h : Wh x k) (hx : x.ok) : (fwd x k).ok := by
  have hN := h.N
  refine ⟨by rw [fw_len]; omega, fun e he => ?_, by simp [fwd]; omega, by simpa [fwd] using hx.2.2.2.1, fun r hr => ?_⟩
  · obtain ⟨j, hj, rfl⟩ := List.mem_map.1 he
    have hj := List.mem_range.1 hj
    have ho := org_lt (k := k) (n := x.evs.length) hj
    have hm : x.evs.getD (orgN k j) default ∈ x.evs := by
      rw [List.getD_eq_getElem?_getD, List.getElem?_eq_getElem ho]; exact List.getElem_mem ho
    have hok := hx.2.1 _ hm
    unfold fwE
    split
    · obtain ⟨⟨⟨w1, w2⟩, _⟩, _⟩ := hok
      unfold Ev.ok Ev.wf fnE
      exact ⟨⟨⟨w1, w2⟩, by dsimp only; omega, by dsimp only; omega, by dsimp only; omega, by dsimp only; omega, by dsimp only; omega, by dsimp only; omega⟩, Nat.zero_le _, Nat.zero_le _, Nat.zero_le _, rfl, rfl, rfl⟩
    · exact mvE_ok hok
  · obtain ⟨q, hq, rfl⟩ := List.mem_map.1 hr
    simpa [mvL] using hx.2.2.2.2 q hq
end
end Go.Proofs.YtnghoibkjphfmaaGreat
/- Pairs held against each other, in plain data. -/
set_option maxRecDepth 100000
set_option linter.unusedVariables false
set_option linter.unusedSimpArgs false
namespace Go.Proofs.YtnghoibkjphfmaaGreat
open Go.RowKit
theorem eqPair_run (a b c d : Int) (w : World) : (Op.equalIn 10000 37 (.agg #[.int .i64 a, .int .i64 b]) (.agg #[.int .i64 c, .int .i64 d])).run Tryz.prog w = .ok (a == c && b == d) w := by
  rw [run_equalIn_agg w 9999 37 _ _ (by kernel_rfl) (by kernel_rfl)]
  obtain ⟨f, g, h, hf, hg, tf, tg, of, og⟩ : ∃ f g : Field, (Program.fieldsOf Tryz.prog 37).toList = [f, g] ∧ f.name ≠ "_" ∧ g.name ≠ "_" ∧ f.type = 3 ∧ g.type = 3 ∧ f.offset = 0 ∧ g.offset = 1 := ⟨_, _, rfl, by decide, by decide, rfl, rfl, rfl, rfl⟩
  rw [h]
  unfold Op.eqFields Op.eqFields Op.eqFields
  rw [if_pos hf, if_pos hg, tf, tg, of, og]
  have ha : (isAgg 3).run Tryz.prog w = .ok false w := Tryz.isAgg3 w
  have hp1 : ∀ (x y : Int), (part 3 #[.int .i64 x, .int .i64 y] 0).run Tryz.prog w = .ok (.int .i64 x) w := fun x y => by
    simp [part, ha]
  have hp2 : ∀ (x y : Int), (part 3 #[.int .i64 x, .int .i64 y] 1).run Tryz.prog w = .ok (.int .i64 y) w := fun x y => by
    simp [part, ha]
  have hi : ∀ x y : Int, (Op.equalIn 9999 3 (.int .i64 x) (.int .i64 y)).run Tryz.prog w = .ok (x == y) w := fun x y => run_equalIn_int w 9998 3 .i64 .i64 x y Tryz.underlying3
  simp only [Sem.run_bind, hp1, hp2, hi, Result.andThen_ok]
  cases hx : (a == c) with
  | false => simp
  | true => 
    simp only [Bool.not_true, Bool.false_eq_true, if_false, Sem.run_bind, hp1, hp2, hi, Result.andThen_ok, Bool.true_and]
    cases hy : (b == d) <;> simp
section
variable {v j : Nat} {ops : Array Oper} {K : Tm → Store → Prop} {KD : List Foot → Tm → Store → Prop} {acc : List Foot} {rest : List Oper} {tm : Tm} {σ : Store} {dst : Option Tmp} {ty : TypeId} {pos : String} {af : Array Edge} {gd : Option (Nat × Bool)}
theorem pair_val {G : Gh} {p : Int × Int} {u : Value} (h : RepO G (.ag (pairO' p)) u) : u = .agg #[.int .i64 p.1, .int .i64 p.2] := by
  rw [RepO] at h
  obtain ⟨cs, rfl, h⟩ := h
  unfold pairO' at h
  rw [RepOL] at h
  obtain ⟨a, l, e1, h1, h⟩ := h
  rw [RepOL] at h
  obtain ⟨b, l2, rfl, h2, h⟩ := h
  rw [RepOL] at h
  subst h
  have := rep_c h1
  have := rep_c h2
  subst a b
  rw [show cs = cs.toList.toArray by simp, e1]
theorem Y_eqlP {x y : Operand} {T' : TypeId} {p q : Int × Int} (hx : ev tm x = some (.ag (pairO' p))) (hy : ev tm y = some (.ag (pairO' q))) :
    YL E.P v j ⟨dst, .binOp .eql 37 x y T', ty, pos, af, gd⟩ tm σ [] (.bool (p.1 == q.1 && p.2 == q.2)) [] := Y_bin' hx hy (fun M u w' w hu hv => by
  rw [pair_val hu, pair_val hv]
  exact ⟨run_eqGuard_agg w _ _ _ _ _ _ (by kernel_rfl), by
    rw [run_eql_struct, show E.P = Tryz.prog from rfl, eqPair_run]; rfl⟩) rfl
theorem M_eqlP {x y : Operand} {T' : TypeId} (p q : Int × Int) (hx : EvM tm x (.ag (pairO' p))) (hy : EvM tm y (.ag (pairO' q))) : YL E.P v j ⟨dst, .binOp .eql 37 x y T', ty, pos, af, gd⟩ tm σ [] (.bool (p.1 == q.1 && p.2 == q.2)) [] := (Y_eqlP hx.st hy.st).strip
theorem D_eqlP {x y : Operand} {T' : TypeId} (p q : Int × Int) (hx : ev tm x = some (.ag (pairO' p))) (hy : ev tm y = some (.ag (pairO' q))) (hcont : DO E.P v ops KD (j + 1) rest (tm.putO dst (.bool (p.1 == q.1 && p.2 == q.2))) (σ.apply []) (Foot.mk [] (wkeys []) :: acc)) : DO E.P v ops KD j (⟨dst, .binOp .eql 37 x y T', ty, pos, af, none⟩ :: rest) tm σ acc := do_step (Y_eqlP hx hy) hcont
end
end Go.Proofs.YtnghoibkjphfmaaGreat
/- Lists held against each other; program order, of the reference; in plain data. -/
set_option maxRecDepth 100000
set_option linter.unusedVariables false
set_option linter.unusedSimpArgs false
namespace Go.Proofs.YtnghoibkjphfmaaGreat
open Go.RowKit
/-- two lists, one by one -/
def eqTo {α : Type} [Inhabited α] (f : α → α → Bool) (a b : List α) (k : Nat) : Bool := (List.range k).all fun i => f (a.getD i default) (b.getD i default)
def eqL {α : Type} [Inhabited α] (f : α → α → Bool) (a b : List α) : Bool := decide (a.length = b.length) && eqTo f a b a.length
def intB (a b : Int) : Bool := decide (a = b)
def eqI (a b : List Int) : Bool := eqL intB a b
def pairB (a b : Int × Int) : Bool := a.1 == b.1 && a.2 == b.2
def eqP (a b : List (Int × Int)) : Bool := eqL pairB a b
end Go.Proofs.YtnghoibkjphfmaaGreat
/- The program's rules: small parts, in plain data. -/
set_option maxRecDepth 100000
set_option linter.unusedVariables false
set_option linter.unusedSimpArgs false
namespace Go.Proofs.YtnghoibkjphfmaaGreat
open Go.RowKit
theorem est_p (e : Ev) : Pure E.P 57 [evOV e] (.bool e.stB) := by
  refine fn_of_awp Tryz.func57 (by decide) rfl Tryz.ntmps57 (Nat.le_of_ble_eq_true rfl) rfl ?_
  refine awp_seq ?_
  (refine ao_region ?_ (fun _ => ?_); exact rfl)
  refine q40 ?_; refine q12 ?_; refine ao_nil ?_; refine then_n ?_; refine awp_seq ?_
  (refine ao_region ?_ (fun _ => ?_); exact rfl)
  refine q28 ?_; refine q16 ?_; refine q46 ?_; refine q11 ?_
  (apply spec_f; exact rfl; exact rfl)
  (refine im_any fun hc_ => ?_; try have hc1_ := (band hc_).1)
  refine q2
  (apply spec_f; exact rfl; exact rfl)
  (refine im_any fun hc_ => ?_; try have hc1_ := (band hc_).1)
  refine q3
  (apply spec_f; exact rfl; exact rfl)
  (refine im_any fun hc_ => ?_; try have hc1_ := (band hc_).1)
  refine q7; refine q0 ?_; refine q11 ?_
  (apply spec_f; exact rfl; exact rfl)
  (refine im_any fun hc_ => ?_; try have hc1_ := (band hc_).1)
  refine q2
  (apply spec_f; exact rfl; exact rfl)
  (refine im_any fun hc_ => ?_; try have hc1_ := (band hc_).1)
  refine q3
  (apply spec_f; exact rfl; exact rfl)
  (refine im_any fun hc_ => ?_; try have hc1_ := (band hc_).1)
  refine q7; refine q0 ?_; refine q12 ?_; refine ao_nil ?_; refine then_n ?_; refine awp_ret ?_
  rotate_left
  all_goals (refine done_b rfl ?_; rw [Bool.eq_iff_iff]; simp_all [Ev.stB])
theorem eld_p (e : Ev) : Pure E.P 59 [evOV e] (.bool e.ldB) := by
  refine fn_of_awp Tryz.func59 (by decide) rfl Tryz.ntmps59 (Nat.le_of_ble_eq_true rfl) rfl ?_
  refine awp_seq ?_
  (refine ao_region ?_ (fun _ => ?_); exact rfl)
  refine q40 ?_; refine q12 ?_; refine ao_nil ?_; refine then_n ?_; refine awp_seq ?_
  (refine ao_region ?_ (fun _ => ?_); exact rfl)
  refine q28 ?_; refine q16 ?_; refine q46 ?_; refine q11 ?_
  (apply spec_f; exact rfl; exact rfl)
  (refine im_any fun hc_ => ?_; try have hc1_ := (band hc_).1)
  refine q2
  (apply spec_f; exact rfl; exact rfl)
  (refine im_any fun hc_ => ?_; try have hc1_ := (band hc_).1)
  refine q3
  (apply spec_f; exact rfl; exact rfl)
  (refine im_any fun hc_ => ?_; try have hc1_ := (band hc_).1)
  refine q7; refine q0 ?_; refine q12 ?_; refine ao_nil ?_; refine then_n ?_; refine awp_ret ?_
  rotate_left
  all_goals (refine done_b rfl ?_; rw [Bool.eq_iff_iff]; simp_all [Ev.ldB])
theorem strong_p (e : Ev) : Pure E.P 69 [evOV e] (.bool (strongB e)) := by
  refine fn_of_awp Tryz.func69 (by decide) rfl Tryz.ntmps69 (Nat.le_of_ble_eq_true rfl) rfl ?_
  refine awp_seq ?_
  (refine ao_region ?_ (fun _ => ?_); exact rfl)
  refine q40 ?_; refine q12 ?_; refine ao_nil ?_; refine then_n ?_; refine awp_seq ?_
  (refine ao_region ?_ (fun _ => ?_); exact rfl)
  refine q28 ?_; refine q16 ?_; refine q11 ?_
  (apply spec_f; exact rfl; exact rfl)
  (refine im_any fun hc_ => ?_; try have hc1_ := (band hc_).1)
  refine q2
  (apply spec_f; exact rfl; exact rfl)
  (refine im_any fun hc_ => ?_; try have hc1_ := (band hc_).1)
  refine q3; refine q0 ?_; refine q11 ?_
  (apply spec_t; exact rfl; exact rfl)
  (refine im_any fun hc_ => ?_; try have hc1_ := (band hc_).1)
  refine q2
  (apply spec_t; exact rfl; exact rfl)
  (refine im_any fun hc_ => ?_; try have hc1_ := (band hc_).1)
  refine q3
  (apply spec_t; exact rfl; exact rfl)
  (refine im_any fun hc_ => ?_; try have hc1_ := (band hc_).1)
  refine q7
  (apply spec_t; exact rfl; exact rfl)
  (refine im_any fun hc_ => ?_; try have hc1_ := (band hc_).1)
  refine q1
  (apply spec_mf; exact rfl; exact rfl)
  (refine im_any fun hc_ => ?_; try have hc1_ := (band hc_).1)
  refine q2
  (apply spec_mf; exact rfl; exact rfl)
  (refine im_any fun hc_ => ?_; try have hc1_ := (band hc_).1)
  refine q3
  (apply spec_t; exact rfl; exact rfl)
  (refine im_any fun hc_ => ?_; try have hc1_ := (band hc_).1)
  refine q24; refine q4 ?_; refine q12 ?_; refine ao_nil ?_; refine then_n ?_; refine awp_ret ?_
  rotate_left
  all_goals (refine done_b rfl ?_; rw [Bool.eq_iff_iff]; simp_all [strongB])
theorem access_p (x : Ex) (n : Nat) (hx : x.evs.length ≤ 65536) (hn : n < x.evs.length) : Pure E.P 52 [exOV x, .int .i64 n] (.bool (accB (x.evs.getD n default))) := by
  refine fn_of_awp Tryz.func52 (by decide) rfl Tryz.ntmps52 (Nat.le_of_ble_eq_true rfl) rfl ?_
  refine awp_seq ?_
  (refine ao_region ?_ (fun _ => ?_); exact rfl)
  refine q40 ?_; refine q12 ?_; refine ao_nil ?_; refine then_n ?_; refine awp_seq ?_
  (refine ao_region ?_ (fun _ => ?_); exact rfl)
  refine q11 ?_
  (apply S_geq; exact rfl; exact rfl)
  refine q11 ?_
  (apply spec_t; exact rfl; exact rfl)
  (refine im_any fun hc_ => ?_; try have hc1_ := (band hc_).1)
  refine q1
  (apply spec_t; exact rfl; exact rfl)
  (refine im_any fun hc_ => ?_; try have hc1_ := (band hc_).1)
  refine q2
  (apply spec_t; exact rfl; exact rfl)
  (refine im_any fun hc_ => ?_; try have hc1_ := (band hc_).1)
  refine q2
  (apply spec_t; exact rfl; exact rfl)
  (refine im_any fun hc_ => ?_; try have hc1_ := (band hc_).1)
  refine q3
  (apply spec_t; exact rfl; exact rfl)
  (refine im_any fun hc_ => ?_; try have hc1_ := (band hc_).1)
  refine q18
  (apply spec_t; exact rfl; exact rfl)
  (refine im_any fun hc_ => ?_; try have hc1_ := (band hc_).1)
  refine q22; refine q4 ?_; refine q11 ?_
  (apply spec_t; exact rfl; exact rfl)
  (refine im_any fun hc_ => ?_; try have hc1_ := (band hc_).1)
  refine q2
  (apply spec_t; exact rfl; exact rfl)
  (refine im_any fun hc_ => ?_; try have hc1_ := (band hc_).1)
  refine q2
  (apply spec_t; exact rfl; exact rfl)
  (refine im_any fun hc_ => ?_; try have hc1_ := (band hc_).1)
  refine q3
  (apply spec_t; exact rfl; exact rfl)
  (refine im_any fun hc_ => ?_; try have hc1_ := (band hc_).1)
  refine q1
  (apply spec_t; exact rfl; exact rfl)
  (refine im_any fun hc_ => ?_; try have hc1_ := (band hc_).1)
  ((have hp_ := hc_; (try simp only [Bool.not_eq_true', Bool.not_eq_false', Bool.or_eq_true, Bool.and_eq_true, Bool.or_eq_false_iff, Bool.and_eq_false_iff, decide_eq_true_eq, decide_eq_false_iff_not, Decidable.not_not, Int.not_lt, Int.not_le, Bool.not_true, Bool.not_false, Bool.true_and, Bool.and_true, Bool.false_or, Bool.or_false, Bool.true_or, Bool.false_and, bne_eq_false_iff_eq, bne_iff_ne, beq_iff_eq, beq_eq_false_iff_ne, decide_eq_decide] at hp_)))
  refine q5
  (apply spec_t; exact rfl; exact rfl)
  (refine im_any fun hc_ => ?_; try have hc1_ := (band hc_).1)
  refine q8
  (apply spec_t; exact rfl; exact rfl)
  (refine im_any fun hc_ => ?_; try have hc1_ := (band hc_).1)
  refine q6
  (apply spec_t; exact rfl; exact rfl)
  (refine im_any fun hc_ => ?_; try have hc1_ := (band hc_).1)
  refine q21; refine q4 ?_; refine q11 ?_
  (apply spec_t; exact rfl; exact rfl)
  (refine im_any fun hc_ => ?_; try have hc1_ := (band hc_).1)
  refine q2
  (apply spec_t; exact rfl; exact rfl)
  (refine im_any fun hc_ => ?_; try have hc1_ := (band hc_).1)
  refine q2
  (apply spec_t; exact rfl; exact rfl)
  (refine im_any fun hc_ => ?_; try have hc1_ := (band hc_).1)
  refine q3
  (apply spec_t; exact rfl; exact rfl)
  (refine im_any fun hc_ => ?_; try have hc1_ := (band hc_).1)
  refine q1
  (apply spec_t; exact rfl; exact rfl)
  (refine im_any fun hc_ => ?_; try have hc1_ := (band hc_).1)
  ((have hp_ := hc_; (try simp only [Bool.not_eq_true', Bool.not_eq_false', Bool.or_eq_true, Bool.and_eq_true, Bool.or_eq_false_iff, Bool.and_eq_false_iff, decide_eq_true_eq, decide_eq_false_iff_not, Decidable.not_not, Int.not_lt, Int.not_le, Bool.not_true, Bool.not_false, Bool.true_and, Bool.and_true, Bool.false_or, Bool.or_false, Bool.true_or, Bool.false_and, bne_eq_false_iff_eq, bne_iff_ne, beq_iff_eq, beq_eq_false_iff_ne, decide_eq_decide] at hp_)))
  refine q5
  (apply spec_t; exact rfl; exact rfl)
  (refine im_any fun hc_ => ?_; try have hc1_ := (band hc_).1)
  refine q8
  (apply spec_t; exact rfl; exact rfl)
  (refine im_any fun hc_ => ?_; try have hc1_ := (band hc_).1)
  refine q6
  (apply spec_t; exact rfl; exact rfl)
  (refine im_any fun hc_ => ?_; try have hc1_ := (band hc_).1)
  refine q26; refine q4 ?_; refine q12 ?_; refine ao_nil ?_; refine then_n ?_; refine awp_ret ?_
  rotate_left
  all_goals (refine done_b rfl ?_; rw [Bool.eq_iff_iff]; simp_all [accB])
theorem index_p (l : List Int) (n : Int) (hl : l.length ≤ 1152921504606846976) : Pure E.P 89 [.d (ints l), .int .i64 n] (.int .i64 (atI l n)) := by
  refine fn_of_awp Tryz.func89 (by decide) rfl Tryz.ntmps89 (Nat.le_of_ble_eq_true rfl) rfl ?_
  refine awp_seq ?_
  (refine ao_region ?_ (fun _ => ?_); exact rfl)
  refine q12 ?_; refine ao_nil ?_; refine then_n ?_
  iterate 2 refine awp_seq ?_
  (refine ao_region ?_ (fun _ => ?_); exact rfl)
  refine q11 ?_; refine q13 ?_; refine q11 ?_; refine ao_nil ?_; refine then_n ?_; refine awp_block ?_
  rotate_left
  refine awp_loop (X := Nat) (fun k => tmL [(0, .d (ints l)), (1, .int .i64 n), (6, .d (ints l)), (7, .int .i64 l.length), (8, .int .i64 k)]) (fun _ => stL []) (fun k => k ≤ l.length ∧ atI l n = atFrom n (l.drop k) k) (fun k => l.length - k) 0 ⟨Nat.zero_le _, rfl⟩ (by repeat' (first | exact le_nil _ | exact sle_nil _ | refine le_cons rfl ?_ | refine sle_cons rfl ?_)) (by repeat' (first | exact le_nil _ | exact sle_nil _ | refine le_cons rfl ?_ | refine sle_cons rfl ?_)) ?_
  intro k hk
  obtain ⟨hk, ht⟩ := hk
  refine awp_seq ?_
  (refine ao_region ?_ (fun _ => ?_); exact rfl)
  refine q37 ?_; refine ao_nil ?_; refine then_n ?_; refine awp_seq ?_
  (apply awp_cond; exact rfl)
  (refine im_dt (fun _ => ?_); (try (exfalso; omega)))
  refine awp_skip ?_; refine then_n ?_; refine awp_seq ?_; refine awp_block ?_; refine awp_seq ?_
  (refine ao_region ?_ (fun _ => ?_); exact rfl)
  refine q11 ?_; refine q12 ?_; refine ao_nil ?_; refine then_n ?_; refine awp_seq ?_
  (refine ao_region ?_ (fun _ => ?_); exact rfl)
  iterate 3 refine q11 ?_
  refine q17 ?_; refine q23 ?_; refine q46 ?_; refine ao_nil ?_; refine then_n ?_
  (apply awp_cond; exact rfl)
  (refine im_dt (fun _ => ?_); (try (exfalso; omega)))
  refine awp_seq ?_
  (refine ao_region ?_ (fun _ => ?_); exact rfl)
  refine q11 ?_; refine q12 ?_; refine ao_nil ?_; refine then_n ?_; refine awp_ret ?_; refine blk_r ?_
  iterate 2 refine then_r ?_
  refine blk_r ?_; refine then_r ?_
  rotate_left
  (refine im_df (fun _ => ?_); (try (exfalso; omega)))
  refine awp_skip ?_; refine blk_n ?_; refine then_n ?_
  (refine ao_region ?_ (fun _ => ?_); exact rfl)
  refine q36 ?_; refine q11 ?_; refine ao_nil ?_; refine then_n ?_
  rotate_left
  (refine im_df (fun _ => ?_); (try (exfalso; omega)))
  refine awp_exit ?_
  iterate 2 refine then_x ?_
  refine blk_x ?_; refine then_n ?_; refine awp_seq ?_
  (refine ao_region ?_ (fun _ => ?_); exact rfl)
  refine q12 ?_; refine ao_nil ?_; refine then_n ?_; refine awp_ret ?_
  rotate_left
  · refine done_i rfl ?_
    rename_i h _
    rw [Int.toNat_natCast] at h
    rw [ht, atFrom_drop l n k (by omega), if_pos h.symm]
  · rename_i h _
    rw [Int.toNat_natCast] at h
    refine round' (k + 1) ⟨by omega, ?_⟩ (by omega) (by repeat' (first | exact le_nil _ | exact sle_nil _ | refine le_cons rfl ?_ | refine sle_cons rfl ?_)) (by repeat' (first | exact le_nil _ | exact sle_nil _ | refine le_cons rfl ?_ | refine sle_cons rfl ?_))
    rw [ht, atFrom_drop l n k (by omega), if_neg (fun e => h e.symm)]
  · refine done_i rfl ?_
    rw [ht, show k = l.length by omega, List.drop_length]; rfl
theorem contains_p (l : List Int) (n : Nat) (hl : l.length ≤ 1152921504606846976) : Pure E.P 72 [.d (ints l), .int .i64 n] (.bool (hasB l n)) := by
  refine fn_of_awp Tryz.func72 (by decide) rfl Tryz.ntmps72 (Nat.le_of_ble_eq_true rfl) rfl ?_
  refine awp_seq ?_
  (refine ao_region ?_ (fun _ => ?_); exact rfl)
  refine q12 ?_; refine ao_nil ?_; refine then_n ?_; refine awp_seq ?_
  (refine ao_region ?_ (fun _ => ?_); exact rfl)
  iterate 2 refine q11 ?_
  ((first
    | (apply S_call; exact rfl; exact .fn _ _ _; exact rfl; (exact index_p _ _ hl))
    | (apply D_call; exact rfl; exact .fn _ _ _; exact rfl; (exact index_p _ _ hl))))
  (apply S_geq; exact rfl; exact rfl)
  refine q12 ?_; refine ao_nil ?_; refine then_n ?_; refine awp_ret ?_
  rotate_left
  all_goals (refine done_b rfl ?_; rfl)
theorem pair_p (x : Ex) (a b : Nat) (hx : x.evs.length ≤ 65536) (ha : a < x.evs.length) (hb : b < x.evs.length) : Pure E.P 28 [exOV x, .int .i64 a, .int .i64 b] (.bool (pairOf x a b)) := by
  refine fn_of_awp Tryz.func28 (by decide) rfl Tryz.ntmps28 (Nat.le_of_ble_eq_true rfl) rfl ?_
  refine awp_seq ?_
  (refine ao_region ?_ (fun _ => ?_); exact rfl)
  refine q40 ?_; refine q12 ?_; refine ao_nil ?_; refine then_n ?_; refine awp_seq ?_
  (refine do_region (E := E) ?_ (fun _ => ?_); exact rfl)
  refine q57 ?_; refine q38 ?_
  ((first
    | (apply S_call; exact rfl; exact .fn _ _ _; exact rfl; (first | exact access_p _ _ hx (by omega)))
    | (apply D_call; exact rfl; exact .fn _ _ _; exact rfl; (first | exact access_p _ _ hx (by omega)))))
  refine q38 ?_
  (apply dspec_t; exact rfl; exact rfl)
  (refine im_any fun hc_ => ?_; try have hc1_ := (band hc_).1)
  refine q27
  (apply dspec_t; exact rfl; exact rfl)
  (refine im_any fun hc_ => ?_; try have hc1_ := (band hc_).1)
  refine q1
  (apply dspec_t; exact rfl; exact rfl)
  (refine im_any fun hc_ => ?_; try have hc1_ := (band hc_).1)
  ((have hp_ := hc_; (try simp only [Bool.not_eq_true', Bool.not_eq_false', Bool.or_eq_true, Bool.and_eq_true, Bool.or_eq_false_iff, Bool.and_eq_false_iff, decide_eq_true_eq, decide_eq_false_iff_not, Decidable.not_not, Int.not_lt, Int.not_le, Bool.not_true, Bool.not_false, Bool.true_and, Bool.and_true, Bool.false_or, Bool.or_false, Bool.true_or, Bool.false_and, bne_eq_false_iff_eq, bne_iff_ne, beq_iff_eq, beq_eq_false_iff_ne, decide_eq_decide] at hp_)))
  ((apply M_call; exact .plain rfl rfl; exact .fn _ _ _; (repeat (first | exact EvsM.nil | (apply EvsM.cons; first | (refine EvM.mb _ rfl ?_; first | assumption | exact rfl) | exact EvM.plain rfl rfl))); (first | exact access_p _ _ hx (by omega))))
  refine q9 ?_; refine q38 ?_
  (apply dspec_t; exact rfl; exact rfl)
  (refine im_any fun hc_ => ?_; try have hc1_ := (band hc_).1)
  refine q1
  (apply dspec_t; exact rfl; exact rfl)
  (refine im_any fun hc_ => ?_; try have hc1_ := (band hc_).1)
  refine q1
  (apply dspec_t; exact rfl; exact rfl)
  (refine im_any fun hc_ => ?_; try have hc1_ := (band hc_).1)
  refine q22; refine q9 ?_; refine q38 ?_
  (apply dspec_t; exact rfl; exact rfl)
  (refine im_any fun hc_ => ?_; try have hc1_ := (band hc_).1)
  refine q2
  (apply dspec_t; exact rfl; exact rfl)
  (refine im_any fun hc_ => ?_; try have hc1_ := (band hc_).1)
  refine q2
  (apply dspec_t; exact rfl; exact rfl)
  (refine im_any fun hc_ => ?_; try have hc1_ := (band hc_).1)
  refine q3
  (apply dspec_t; exact rfl; exact rfl)
  (refine im_any fun hc_ => ?_; try have hc1_ := (band hc_).1)
  refine q1
  (apply dspec_t; exact rfl; exact rfl)
  (refine im_any fun hc_ => ?_; try have hc1_ := (band hc_).1)
  ((have hp_ := hc_; (try simp only [Bool.not_eq_true', Bool.not_eq_false', Bool.or_eq_true, Bool.and_eq_true, Bool.or_eq_false_iff, Bool.and_eq_false_iff, decide_eq_true_eq, decide_eq_false_iff_not, Decidable.not_not, Int.not_lt, Int.not_le, Bool.not_true, Bool.not_false, Bool.true_and, Bool.and_true, Bool.false_or, Bool.or_false, Bool.true_or, Bool.false_and, bne_eq_false_iff_eq, bne_iff_ne, beq_iff_eq, beq_eq_false_iff_ne, decide_eq_decide] at hp_)))
  refine q5
  (apply dspec_t; exact rfl; exact rfl)
  (refine im_any fun hc_ => ?_; try have hc1_ := (band hc_).1)
  refine q8
  (apply dspec_t; exact rfl; exact rfl)
  (refine im_any fun hc_ => ?_; try have hc1_ := (band hc_).1)
  refine q6
  (apply dspec_t; exact rfl; exact rfl)
  (refine im_any fun hc_ => ?_; try have hc1_ := (band hc_).1)
  refine q2
  (apply dspec_t; exact rfl; exact rfl)
  (refine im_any fun hc_ => ?_; try have hc1_ := (band hc_).1)
  refine q2
  (apply dspec_t; exact rfl; exact rfl)
  (refine im_any fun hc_ => ?_; try have hc1_ := (band hc_).1)
  refine q3
  (apply dspec_t; exact rfl; exact rfl)
  (refine im_any fun hc_ => ?_; try have hc1_ := (band hc_).1)
  refine q1
  (apply dspec_t; exact rfl; exact rfl)
  (refine im_any fun hc_ => ?_; try have hc1_ := (band hc_).1)
  ((have hp_ := hc_; (try simp only [Bool.not_eq_true', Bool.not_eq_false', Bool.or_eq_true, Bool.and_eq_true, Bool.or_eq_false_iff, Bool.and_eq_false_iff, decide_eq_true_eq, decide_eq_false_iff_not, Decidable.not_not, Int.not_lt, Int.not_le, Bool.not_true, Bool.not_false, Bool.true_and, Bool.and_true, Bool.false_or, Bool.or_false, Bool.true_or, Bool.false_and, bne_eq_false_iff_eq, bne_iff_ne, beq_iff_eq, beq_eq_false_iff_ne, decide_eq_decide] at hp_)))
  refine q5
  (apply dspec_t; exact rfl; exact rfl)
  (refine im_any fun hc_ => ?_; try have hc1_ := (band hc_).1)
  refine q8
  (apply dspec_t; exact rfl; exact rfl)
  (refine im_any fun hc_ => ?_; try have hc1_ := (band hc_).1)
  refine q6
  (apply dspec_t; exact rfl; exact rfl)
  (refine im_any fun hc_ => ?_; try have hc1_ := (band hc_).1)
  refine q7; refine q9 ?_
  (apply D_assign; exact rfl)
  (refine do_nil ?_ ?_; (first | ((try dsimp only [wkeys]); decide +kernel) | exact rfl))
  refine then_n ?_; refine awp_ret ?_
  rotate_left
  all_goals (refine done_b rfl ?_; rw [Bool.eq_iff_iff]; simp_all [pairOf])
theorem bit_0 (s : Int) (h0 : 0 ≤ s) (h3 : s ≤ 3) : IntKind.i64.wrap ↑(BitVec.ofInt IntKind.i64.bits s &&& BitVec.ofInt IntKind.i64.bits 1).toNat = 0 ↔ ¬ (s = 1 ∨ s = 3) := by
  obtain rfl | rfl | rfl | rfl : s = 0 ∨ s = 1 ∨ s = 2 ∨ s = 3 := by omega
  all_goals decide +kernel
theorem bit_1 (s : Int) (h0 : 0 ≤ s) (h3 : s ≤ 3) : IntKind.i64.wrap ↑(BitVec.ofInt IntKind.i64.bits s &&& BitVec.ofInt IntKind.i64.bits 2).toNat = 0 ↔ ¬ (s = 2 ∨ s = 3) := by
  obtain rfl | rfl | rfl | rfl : s = 0 ∨ s = 1 ∨ s = 2 ∨ s = 3 := by omega
  all_goals decide +kernel
theorem in_p (s : Int) (e : Ev) (h0 : 0 ≤ s) (h3 : s ≤ 3) : Pure E.P 65 [.int .i64 s, evOV e] (.bool (inB s e)) := by
  have b0 := bit_0 s h0 h3
  have b1 := bit_1 s h0 h3
  refine fn_of_awp Tryz.func65 (by decide) rfl Tryz.ntmps65 (Nat.le_of_ble_eq_true rfl) rfl ?_
  refine awp_seq ?_
  (refine ao_region ?_ (fun _ => ?_); exact rfl)
  refine q40 ?_; refine q12 ?_; refine ao_nil ?_; refine then_n ?_; refine awp_seq ?_
  (refine ao_region ?_ (fun _ => ?_); exact rfl)
  refine q11 ?_
  ((first | (first | (apply S_and; exact rfl; exact rfl) | (apply D_and; exact rfl; exact rfl)) | first
    | (apply S_call; exact rfl; exact .fn _ _ _; exact rfl; (first | exact est_p _ | exact eld_p _))
    | (apply D_call; exact rfl; exact .fn _ _ _; exact rfl; (first | exact est_p _ | exact eld_p _))))
  refine q44 ?_; refine q11 ?_
  (apply guard_t; exact rfl; exact rfl)
  (refine im_nt (fun _ => ?_); (try (exfalso; omega)))
  refine q14 ?_
  (apply guard_t; exact rfl; exact rfl)
  refine im_tt ?_
  ((first | (first | (apply S_and; exact rfl; exact rfl) | (apply D_and; exact rfl; exact rfl)) | first
    | (apply S_call; exact rfl; exact .fn _ _ _; exact rfl; (first | exact est_p _ | exact eld_p _))
    | (apply D_call; exact rfl; exact .fn _ _ _; exact rfl; (first | exact est_p _ | exact eld_p _))))
  refine q4 ?_; refine q11 ?_
  (apply guard_f; exact rfl; exact rfl)
  (refine im_af (fun hc_ => ?_); (try simp only [Bool.not_eq_true', Bool.not_eq_false', Bool.or_eq_true, Bool.and_eq_true, Bool.or_eq_false_iff, Bool.and_eq_false_iff, decide_eq_true_eq, decide_eq_false_iff_not, Decidable.not_not, Int.not_lt, Int.not_le, Bool.not_true, Bool.not_false, Bool.true_and, Bool.and_true, Bool.false_or, Bool.or_false, Bool.true_or, Bool.false_and, bne_eq_false_iff_eq, bne_iff_ne, beq_iff_eq, beq_eq_false_iff_ne, decide_eq_decide] at hc_))
  refine q11 ?_
  (apply guard_f; exact rfl; exact rfl)
  refine im_ff ?_
  ((first | (first | (apply S_and; exact rfl; exact rfl) | (apply D_and; exact rfl; exact rfl)) | first
    | (apply S_call; exact rfl; exact .fn _ _ _; exact rfl; (first | exact est_p _ | exact eld_p _))
    | (apply D_call; exact rfl; exact .fn _ _ _; exact rfl; (first | exact est_p _ | exact eld_p _))))
  (apply guard_f; exact rfl; exact rfl)
  refine im_ff ?_; refine q44 ?_
  (apply guard_f; exact rfl; exact rfl)
  refine im_ff ?_; refine q11 ?_
  (apply guard_t; exact rfl; exact rfl)
  (refine im_nt (fun _ => ?_); (try (exfalso; omega)))
  refine q14 ?_
  (apply guard_t; exact rfl; exact rfl)
  refine im_tt ?_
  ((first | (first | (apply S_and; exact rfl; exact rfl) | (apply D_and; exact rfl; exact rfl)) | first
    | (apply S_call; exact rfl; exact .fn _ _ _; exact rfl; (first | exact est_p _ | exact eld_p _))
    | (apply D_call; exact rfl; exact .fn _ _ _; exact rfl; (first | exact est_p _ | exact eld_p _))))
  (apply guard_f; exact rfl; exact rfl)
  refine im_ff ?_; refine q4 ?_; refine q0 ?_; refine q12 ?_; refine ao_nil ?_; refine then_n ?_; refine awp_ret ?_
  rotate_left
  exact im_ft
  exact im_tf
  (refine im_nf (fun _ => ?_); (try (exfalso; omega)))
  (apply guard_t; exact rfl; exact rfl)
  exact im_ft
  refine im_ff ?_
  (apply guard_f; exact rfl; exact rfl)
  refine im_ff ?_
  (apply S_pick_v; exact rfl)
  (apply pick_f; exact rfl)
  refine q0 ?_; refine q12 ?_; refine ao_nil ?_; refine then_n ?_; refine awp_ret ?_
  rotate_left
  iterate 4 exact im_ft
  refine im_at ?_; refine im_tt ?_
  (refine im_vt (fun _ => ?_))
  (apply guard_f; exact rfl; exact rfl)
  exact im_tf
  refine im_tt ?_
  (apply guard_f; exact rfl; exact rfl)
  exact im_tf
  refine im_tt ?_
  (apply guard_f; exact rfl; exact rfl)
  exact im_tf
  refine im_tt ?_
  iterate 2 (apply guard_u; exact rfl; exact rfl)
  (apply guard_f; exact rfl; exact rfl)
  exact im_tf
  refine im_tt ?_
  (apply S_pick_v; exact rfl)
  (apply pick_t; exact rfl)
  refine q12 ?_; refine ao_nil ?_; refine then_n ?_; refine awp_ret ?_
  rotate_left
  exact im_tf
  (refine im_nf (fun _ => ?_); (try (exfalso; omega)))
  (apply guard_t; exact rfl; exact rfl)
  exact im_ft
  refine im_ff ?_
  (apply S_pick_v; exact rfl)
  (apply pick_f; exact rfl)
  refine q11 ?_
  (apply guard_f; exact rfl; exact rfl)
  refine im_ff ?_; refine q11 ?_
  (apply guard_f; exact rfl; exact rfl)
  refine im_ff ?_
  ((first | (first | (apply S_and; exact rfl; exact rfl) | (apply D_and; exact rfl; exact rfl)) | first
    | (apply S_call; exact rfl; exact .fn _ _ _; exact rfl; (first | exact est_p _ | exact eld_p _))
    | (apply D_call; exact rfl; exact .fn _ _ _; exact rfl; (first | exact est_p _ | exact eld_p _))))
  (apply guard_f; exact rfl; exact rfl)
  refine im_ff ?_; refine q44 ?_
  (apply guard_f; exact rfl; exact rfl)
  refine im_ff ?_; refine q11 ?_
  (apply guard_t; exact rfl; exact rfl)
  (refine im_nt (fun _ => ?_); (try (exfalso; omega)))
  refine q14 ?_
  (apply guard_t; exact rfl; exact rfl)
  refine im_tt ?_
  ((first | (first | (apply S_and; exact rfl; exact rfl) | (apply D_and; exact rfl; exact rfl)) | first
    | (apply S_call; exact rfl; exact .fn _ _ _; exact rfl; (first | exact est_p _ | exact eld_p _))
    | (apply D_call; exact rfl; exact .fn _ _ _; exact rfl; (first | exact est_p _ | exact eld_p _))))
  (apply guard_f; exact rfl; exact rfl)
  refine im_ff ?_; refine q4 ?_; refine q0 ?_; refine q12 ?_; refine ao_nil ?_; refine then_n ?_; refine awp_ret ?_
  rotate_left
  exact im_ft
  exact im_tf
  (refine im_nf (fun _ => ?_); (try (exfalso; omega)))
  (apply guard_t; exact rfl; exact rfl)
  exact im_ft
  refine im_ff ?_
  (apply guard_f; exact rfl; exact rfl)
  refine im_ff ?_
  (apply S_pick_v; exact rfl)
  (apply pick_f; exact rfl)
  refine q0 ?_; refine q12 ?_; refine ao_nil ?_; refine then_n ?_; refine awp_ret ?_
  rotate_left
  iterate 5 exact im_ft
  all_goals
    refine done_b rfl ?_
    rw [Bool.eq_iff_iff]
    simp only [b0, b1] at *
    first | (simp_all [inB]; done) | (simp_all [inB]; grind)
end Go.Proofs.YtnghoibkjphfmaaGreat
/- What goes over the events between two; is there one of which it is so? In plain data. -/
set_option maxRecDepth 100000
set_option linter.unusedVariables false
set_option linter.unusedSimpArgs false
namespace Go.Proofs.YtnghoibkjphfmaaGreat
open Go.RowKit
/-- the events between two, with their places -/
def btwYs (x : Ex) (a b : Nat) : List (List OV) := (List.range (b - (a + 1))).map fun i => [.int .i64 ((a + 1 + i : Nat) : Int), evOV (x.evs.getD (a + 1 + i) default)]
theorem btw_len (x : Ex) (a b : Nat) : (btwYs x a b).length = b - (a + 1) := by simp [btwYs]
theorem btw_get (x : Ex) (a b i : Nat) (h : i < b - (a + 1)) : (btwYs x a b).getD i [] = [.int .i64 ((a + 1 + i : Nat) : Int), evOV (x.evs.getD (a + 1 + i) default)] := by
  unfold btwYs
  rw [List.getD_eq_getElem?_getD, List.getElem?_map, List.getElem?_range h]; rfl
theorem btw1_s (x : Ex) (a b : Nat) (hx : x.evs.length ≤ 65536) (hb : b < x.evs.length) (ha : a ≤ 65536) : SeqW E.P 98 [] [.d (.pt [.c (.int .i64 a)] 0), .d (.pt [.c (.int .i64 b)] 0), .d (.pt (exRow x) 0)] (btwYs x a b) := by
  intro Y k τ J m st hm h1 h2 hnd hbig hy l0 hl0
  rw [btw_len] at hm h1
  refine fny_of_awp Tryz.func98 (by decide) rfl Tryz.ntmps98 (Nat.le_of_ble_eq_true rfl) rfl ?_
  refine awp_seq ?_
  (refine ao_region ?_ (fun _ => ?_); exact rfl)
  refine q23 ?_; refine q36 ?_; refine q12 ?_; refine ao_nil ?_; refine then_n ?_; refine awp_block ?_
  rotate_left
  refine awp_loop (X := Nat × Rows) (fun p => tmL [(0, .yl k τ), (2, .d (.pt [.c (.int .i64 b)] 0)), (3, .d (.pt (exRow x) 0)), (5, .int .i64 ((a + 1 + p.1 : Nat) : Int)), (GS, .gh p.1 Y)]) (fun p => stL p.2)
    (fun p => p.1 ≤ b - (a + 1) ∧ J p.1 p.2 ∧ (st = true → p.1 < m)) (fun p => b - (a + 1) - p.1) (0, l0) ⟨Nat.zero_le _, hl0, h2⟩ (by repeat' (first | exact le_nil _ | exact sle_nil _ | refine le_cons rfl ?_ | refine sle_cons rfl ?_)) (fun _ _ h => h) ?_
  rintro ⟨i, l⟩ ⟨hi, hJ, hst⟩
  dsimp only at hi hJ hst ⊢
  by_cases hlt : i < b - (a + 1)
  rotate_left
  · have hme : i = m := by
      cases st with
      | true => have h9 := hst rfl; omega
      | false => have := h1 rfl; omega
    iterate 2 refine awp_seq ?_
    (refine ao_region ?_ (fun _ => ?_); exact rfl)
    refine q11 ?_; refine q23 ?_; refine q37 ?_; refine ao_nil ?_; refine then_n ?_
    (apply awp_cond; exact rfl)
    (refine im_dt (fun _ => ?_); (try (exfalso; omega)))
    (refine im_df (fun _ => ?_); (try (exfalso; omega)))
    refine awp_exit ?_
    iterate 2 refine then_x ?_
    refine blk_x ?_
    rotate_left
    subst hme
    exact ⟨Or.inl rfl, rfl, l, hJ, fun _ _ h => h⟩
  have hlm : i < m := by
    cases st with
    | true => exact hst rfl
    | false => rw [h1 rfl]; exact hlt
  have hY := hy i l hlm hJ
  rw [btw_get x a b i hlt] at hY
  rcases Bool.eq_false_or_eq_true (!(st && i + 1 == m)) with hans | hans
  · rw [hans] at hY
    iterate 2 refine awp_seq ?_
    (refine ao_region ?_ (fun _ => ?_); exact rfl)
    refine q11 ?_; refine q23 ?_; refine q37 ?_; refine ao_nil ?_; refine then_n ?_
    (apply awp_cond; exact rfl)
    (refine im_dt (fun _ => ?_); (try (exfalso; omega)))
    refine awp_skip ?_; refine then_n ?_; refine awp_seq ?_; refine awp_block ?_; refine awp_seq ?_
    (refine ao_region ?_ (fun _ => ?_); exact rfl)
    iterate 2 refine q11 ?_
    iterate 2 refine q32 ?_
    refine q23 ?_; refine q11 ?_; refine q17 ?_; refine q33 ?_
    ((apply S_yield; exact rfl; exact rfl; exact rfl; exact hY; exact (fun _ _ h => h); exact hnd _; (intro l1 hl1)))
    (apply S_not; exact rfl)
    refine ao_nil ?_; refine then_n ?_
    (apply awp_cond; exact rfl)
    refine im_bt ?_
    exact im_tf
    refine im_bf ?_; refine im_tt ?_; refine awp_skip ?_; refine blk_n ?_; refine then_n ?_
    (refine ao_region ?_ (fun _ => ?_); exact rfl)
    refine q11 ?_; refine q36 ?_; refine q12 ?_; refine ao_nil ?_; refine then_n ?_
    rotate_left
    (refine im_df (fun _ => ?_); (try (exfalso; omega)))
    exact ⟨(i + 1, l1), ⟨show i + 1 ≤ _ by omega, hl1, seq_go hlm hans⟩, show b - (a + 1) - (i + 1) < b - (a + 1) - i by omega, (by repeat' (first | exact le_nil _ | exact sle_nil _ | refine le_cons rfl ?_ | refine sle_cons rfl ?_)), out_le (hnd _ _ hl1)⟩
  · rw [hans] at hY
    rw [seq_stop hans] at hY
    iterate 2 refine awp_seq ?_
    (refine ao_region ?_ (fun _ => ?_); exact rfl)
    refine q11 ?_; refine q23 ?_; refine q37 ?_; refine ao_nil ?_; refine then_n ?_
    (apply awp_cond; exact rfl)
    (refine im_dt (fun _ => ?_); (try (exfalso; omega)))
    refine awp_skip ?_; refine then_n ?_; refine awp_seq ?_; refine awp_block ?_; refine awp_seq ?_
    (refine ao_region ?_ (fun _ => ?_); exact rfl)
    iterate 2 refine q11 ?_
    iterate 2 refine q32 ?_
    refine q23 ?_; refine q11 ?_; refine q17 ?_; refine q33 ?_
    ((apply S_yield; exact rfl; exact rfl; exact rfl; exact hY; exact (fun _ _ h => h); exact hnd _; (intro l1 hl1)))
    (apply S_not; exact rfl)
    refine ao_nil ?_; refine then_n ?_
    (apply awp_cond; exact rfl)
    refine im_bt ?_; refine im_ff ?_; refine awp_ret ?_; refine blk_r ?_
    iterate 2 refine then_r ?_
    refine blk_r ?_
    rotate_left
    refine im_bf ?_
    exact im_ft
    (refine im_df (fun _ => ?_); (try (exfalso; omega)))
    exact ⟨Or.inr rfl, rfl, l1, hl1, out_le (hnd _ _ hl1)⟩
theorem between_p (x : Ex) (a b : Nat) : Pure E.P 88 [exOV x, .int .i64 a, .int .i64 b] (.fn 98 [] [.d (.pt [.c (.int .i64 a)] 0), .d (.pt [.c (.int .i64 b)] 0), .d (.pt (exRow x) 0)]) := by
  have f3 : Frozen 3 := ⟨trivial⟩
  have f4 : Frozen 4 := ⟨trivial⟩
  have f5 : Frozen 5 := ⟨trivial⟩
  refine fn_of_awp Tryz.func88 (by decide) rfl Tryz.ntmps88 (Nat.le_of_ble_eq_true rfl) rfl ?_
  refine awp_seq ?_
  (refine ao_region ?_ (fun _ => ?_); exact rfl)
  iterate 3 refine q34 ?_
  refine q12 ?_; refine ao_nil ?_; refine then_n ?_; refine awp_seq ?_
  (refine ao_region ?_ (fun _ => ?_); exact rfl)
  (apply S_makeFunc; exact rfl; exact rfl)
  refine q12 ?_; refine ao_nil ?_; refine then_n ?_; refine awp_ret ?_
  rotate_left
  exact done_r rfl rfl
theorem first_hit {a : Nat} {h : Nat → Bool} : ∀ {b : Nat}, someB a b h = true → ∃ n, a < n ∧ n < b ∧ h n = true ∧ ∀ k, a < k → k < n → h k = false
  | 0, e => by rw [someB_none (by omega)] at e; cases e
  | b + 1, e => by
    by_cases hab : a < b
    · rw [someB_succ hab] at e
      cases hs : someB a b h with
      | true =>
        obtain ⟨n, h1, h2, h3⟩ := first_hit hs
        exact ⟨n, h1, by omega, h3⟩
      | false =>
        rw [hs, Bool.false_or] at e
        refine ⟨b, hab, by omega, e, fun k h1 h2 => ?_⟩
        cases hk : h k with
        | false => rfl
        | true => rw [someB_hit h1 h2 hk] at hs; cases hs
    · rw [someB_none (by omega)] at e; cases e
theorem some_p (x : Ex) (a b : Nat) (f : FuncId) (ca : List TV) (h : Nat → Bool) (hx : x.evs.length ≤ 65536) (hb : b < x.evs.length) (ha : a ≤ 65536) (hh : ∀ n : Nat, a < n → n < b → Pure E.P f ([.int .i64 n, evOV (x.evs.getD n default)] ++ ca.map .d) (.bool (h n))) :
    Pure E.P 60 [exOV x, .int .i64 a, .int .i64 b, .fn f [] (ca.map .d)] (.bool (someB a b h)) := by
  have f4 : Frozen 4 := ⟨trivial⟩
  have f7 : Frozen 7 := ⟨trivial⟩
  have k9 : KeyOf 9 1009 := ⟨trivial⟩
  refine fn_of_awp Tryz.func60 (by decide) rfl Tryz.ntmps60 (Nat.le_of_ble_eq_true rfl) rfl ?_
  refine awp_seq ?_
  (refine ao_region ?_ (fun _ => ?_); exact rfl)
  iterate 2 refine q34 ?_
  refine q12 ?_; refine ao_nil ?_; refine then_n ?_; refine awp_scope ?_; refine awp_seq ?_
  (refine ao_region ?_ (fun _ => ?_); exact rfl)
  (apply S_allocK; assumption; exact rfl)
  refine q15 ?_; refine ao_nil ?_; refine then_n ?_; refine awp_seq ?_; refine awp_label ?_; refine then_n ?_
  iterate 2 refine awp_seq ?_
  (refine ao_region ?_ (fun _ => ?_); exact rfl)
  refine q33 ?_
  iterate 2 refine q11 ?_
  ((apply S_call; exact rfl; exact .fn _ _ _; exact rfl; exact between_p x a b))
  refine ao_nil ?_; refine then_n ?_; refine awp_block ?_
  rotate_left
  rename_i v9 _
  cases hs : someB a b h with
  | false =>
    obtain ⟨m, hm⟩ : ∃ m, m = b - (a + 1) := ⟨_, rfl⟩
    have hI : ∀ i, i < m → h (a + 1 + i) = (false && decide (i + 1 = m)) := fun i hi => by
      cases hk : h (a + 1 + i) with
      | false => rfl
      | true => rw [someB_hit (by omega) (by omega) hk] at hs; cases hs
    refine awp_range (X := Bool) rfl (.fn _ _ _) (btw1_s x a b hx hb ha) (fun q => [(1009, ((v9, 0), ⟨1, [[.bool q]]⟩))]) (fun i q => q = (false && decide (i = m))) false (by simp <;> omega) m .normal rfl (by rw [btw_len]; omega) (fun e => by rw [btw_len]; first | omega | cases e) (fun e => by first | omega | exact (e rfl).elim)
        (tmL [(7, .d (.pt [.fn f [] ca] 0)), (9, .lo 1009 (v9, 0) 1 0 0)]) (by repeat' (first | exact le_nil _ | exact sle_nil _ | refine le_cons rfl ?_ | refine sle_cons rfl ?_)) rfl (by decide) (fun i hi => by rw [btw_get _ _ _ _ (by omega)]; rfl) (by repeat' (first | exact le_nil _ | exact sle_nil _ | refine le_cons rfl ?_ | refine sle_cons rfl ?_)) (fun p => by simp) (fun p => by simp) ?_ ?_
    · rintro i q hi rfl
      rw [btw_get _ _ _ _ (by omega)]
      have hc := hh (a + 1 + i) (by omega) (by omega)
      refine awp_seq ?_
      (refine ao_region ?_ (fun _ => ?_); exact rfl)
      refine q12 ?_; refine ao_nil ?_; refine then_n ?_
      (refine ao_region ?_ (fun _ => ?_); exact rfl)
      (apply S_alloc; exact rfl)
      refine q15 ?_; refine ao_nil ?_
      rotate_left
      refine ⟨rfl, ?_⟩
      by_cases hlast : i + 1 = m
      · have hv : h (a + 1 + i) = false := by rw [hI i hi]; simp [hlast]
        rw [hv] at hc
        refine awp_block ?_; refine awp_seq ?_
        (refine ao_region ?_ (fun _ => ?_); exact rfl)
        refine q23 ?_; refine q11 ?_; refine q14 ?_
        ((apply S_call; exact rfl; exact .d _ _ _; exact rfl; exact hc))
        refine q15 ?_; refine ao_nil ?_; refine then_n ?_; refine awp_seq ?_
        (refine ao_region ?_ (fun _ => ?_); exact rfl)
        refine q16 ?_; refine ao_nil ?_; refine then_n ?_
        (apply awp_cond; exact rfl)
        exact im_ft
        refine im_ff ?_; refine awp_skip ?_; refine blk_n ?_
        rotate_left
        exact ⟨by rw [show (i + 1 == m) = true by simpa using hlast]; rfl, false, by simp [hlast], (by repeat' (first | exact le_nil _ | exact sle_nil _ | refine le_cons rfl ?_ | refine sle_cons rfl ?_))⟩
      · have hv : h (a + 1 + i) = false := by rw [hI i hi]; simp [hlast]
        rw [hv] at hc
        refine awp_block ?_; refine awp_seq ?_
        (refine ao_region ?_ (fun _ => ?_); exact rfl)
        refine q23 ?_; refine q11 ?_; refine q14 ?_
        ((apply S_call; exact rfl; exact .d _ _ _; exact rfl; exact hc))
        refine q15 ?_; refine ao_nil ?_; refine then_n ?_; refine awp_seq ?_
        (refine ao_region ?_ (fun _ => ?_); exact rfl)
        refine q16 ?_; refine ao_nil ?_; refine then_n ?_
        (apply awp_cond; exact rfl)
        exact im_ft
        refine im_ff ?_; refine awp_skip ?_; refine blk_n ?_
        rotate_left
        exact ⟨by rw [show (i + 1 == m) = false by simpa using hlast]; rfl, false, by simp [hlast], (by repeat' (first | exact le_nil _ | exact sle_nil _ | refine le_cons rfl ?_ | refine sle_cons rfl ?_))⟩
    · rintro q rfl
      refine blk_n ?_; refine then_n ?_; refine awp_seq ?_
      (refine ao_region ?_ (fun _ => ?_); exact rfl)
      refine q16 ?_; refine q12 ?_; refine ao_nil ?_; refine then_n ?_; refine awp_ret ?_; refine ng_r ?_
      rotate_left
      exact done_b rfl (by simp)
  | true =>
    obtain ⟨n, h1, h2, h3, h4⟩ := first_hit hs
    obtain ⟨m, hm⟩ : ∃ m, m = n - a := ⟨_, rfl⟩
    have hI : ∀ i, i < m → h (a + 1 + i) = (true && decide (i + 1 = m)) := fun i hi => by
      by_cases e : i + 1 = m
      · rw [show a + 1 + i = n by omega, h3]; simp [e]
      · rw [h4 _ (by omega) (by omega)]; simp [e]
    refine awp_range (X := Bool) rfl (.fn _ _ _) (btw1_s x a b hx hb ha) (fun q => [(1009, ((v9, 0), ⟨1, [[.bool q]]⟩))]) (fun i q => q = (true && decide (i = m))) false (by simp <;> omega) m (.exit 0) rfl (by rw [btw_len]; omega) (fun e => by rw [btw_len]; first | omega | cases e) (fun e => by first | omega | exact (e rfl).elim)
        (tmL [(7, .d (.pt [.fn f [] ca] 0)), (9, .lo 1009 (v9, 0) 1 0 0)]) (by repeat' (first | exact le_nil _ | exact sle_nil _ | refine le_cons rfl ?_ | refine sle_cons rfl ?_)) rfl (by decide) (fun i hi => by rw [btw_get _ _ _ _ (by omega)]; rfl) (by repeat' (first | exact le_nil _ | exact sle_nil _ | refine le_cons rfl ?_ | refine sle_cons rfl ?_)) (fun p => by simp) (fun p => by simp) ?_ ?_
    · rintro i q hi rfl
      rw [btw_get _ _ _ _ (by omega)]
      have hc := hh (a + 1 + i) (by omega) (by omega)
      refine awp_seq ?_
      (refine ao_region ?_ (fun _ => ?_); exact rfl)
      refine q12 ?_; refine ao_nil ?_; refine then_n ?_
      (refine ao_region ?_ (fun _ => ?_); exact rfl)
      (apply S_alloc; exact rfl)
      refine q15 ?_; refine ao_nil ?_
      rotate_left
      refine ⟨rfl, ?_⟩
      by_cases hlast : i + 1 = m
      · have hv : h (a + 1 + i) = true := by rw [hI i hi]; simp [hlast]
        rw [hv] at hc
        refine awp_block ?_; refine awp_seq ?_
        (refine ao_region ?_ (fun _ => ?_); exact rfl)
        refine q23 ?_; refine q11 ?_; refine q14 ?_
        ((apply S_call; exact rfl; exact .d _ _ _; exact rfl; exact hc))
        refine q15 ?_; refine ao_nil ?_; refine then_n ?_; refine awp_seq ?_
        (refine ao_region ?_ (fun _ => ?_); exact rfl)
        refine q16 ?_; refine ao_nil ?_; refine then_n ?_
        (apply awp_cond; exact rfl)
        refine im_tt ?_; refine awp_exit ?_
        (refine blk_y ?_ ?_; exact rfl)
        rotate_left
        exact im_tf
        exact ⟨by rw [show (i + 1 == m) = true by simpa using hlast]; rfl, true, by simp [hlast], (by repeat' (first | exact le_nil _ | exact sle_nil _ | refine le_cons rfl ?_ | refine sle_cons rfl ?_))⟩
      · have hv : h (a + 1 + i) = false := by rw [hI i hi]; simp [hlast]
        rw [hv] at hc
        refine awp_block ?_; refine awp_seq ?_
        (refine ao_region ?_ (fun _ => ?_); exact rfl)
        refine q23 ?_; refine q11 ?_; refine q14 ?_
        ((apply S_call; exact rfl; exact .d _ _ _; exact rfl; exact hc))
        refine q15 ?_; refine ao_nil ?_; refine then_n ?_; refine awp_seq ?_
        (refine ao_region ?_ (fun _ => ?_); exact rfl)
        refine q16 ?_; refine ao_nil ?_; refine then_n ?_
        (apply awp_cond; exact rfl)
        exact im_ft
        refine im_ff ?_; refine awp_skip ?_; refine blk_n ?_
        rotate_left
        exact ⟨by rw [show (i + 1 == m) = false by simpa using hlast]; rfl, false, by simp [hlast], (by repeat' (first | exact le_nil _ | exact sle_nil _ | refine le_cons rfl ?_ | refine sle_cons rfl ?_))⟩
    · rintro q rfl
      refine blk_x ?_; refine then_n ?_; refine awp_seq ?_
      (refine ao_region ?_ (fun _ => ?_); exact rfl)
      refine q16 ?_; refine q12 ?_; refine ao_nil ?_; refine then_n ?_; refine awp_ret ?_; refine ng_r ?_
      rotate_left
      exact done_b rfl (by simp)
end Go.Proofs.YtnghoibkjphfmaaGreat
