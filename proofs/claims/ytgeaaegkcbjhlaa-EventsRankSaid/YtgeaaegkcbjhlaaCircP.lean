/- A search that ends well has a rank of places, one that fails has met its own way: so it answers as the taking away of places does. Plain. -/
import Derived.Test.YtgeaaegkcbjhlaaAcy
import Derived.Test.YtgeaaegkcbjhlaaPz
namespace Go.Proofs.Ytgeaaegkcbjhlaa
/-! ### the search, and what it tells -/
/-- an arrow from a place to another one -/
def Arr (l : List (Int × Int)) (a b : Nat) : Prop := ∃ q ∈ l, q.1 = (a : Int) ∧ q.2 = (b : Int)
/-- one or more arrows -/
inductive Way (l : List (Int × Int)) : Nat → Nat → Prop where
  | one {a b : Nat} (h : Arr l a b) : Way l a b
  | more {a b c : Nat} (h : Way l a b) (h2 : Arr l b c) : Way l a c
theorem mem_nxF {l : List (Int × Int)} {n : Nat} (hok : l.any (outB n) = false) {a b : Nat} : b ∈ nxF l a ↔ Arr l a b := by
  unfold nxF nxTo Arr
  rw [List.take_length]
  simp only [List.mem_map, List.mem_filter, beq_iff_eq]
  constructor
  · rintro ⟨z, ⟨q, ⟨hq, h1⟩, rfl⟩, rfl⟩
    refine ⟨q, hq, h1, ?_⟩
    rw [List.any_eq_false] at hok
    have := hok q hq
    unfold outB at this
    simp only [Bool.or_eq_true, decide_eq_true_eq, not_or] at this
    omega
  · rintro ⟨q, hq, h1, h2⟩
    exact ⟨q.2, ⟨q, ⟨hq, h1⟩, rfl⟩, by rw [h2]; simp⟩
theorem arr_lt {l : List (Int × Int)} {n : Nat} (hok : l.any (outB n) = false) {a b : Nat} (h : Arr l a b) : a < n ∧ b < n := by
  obtain ⟨q, hq, h1, h2⟩ := h
  rw [List.any_eq_false] at hok
  have := hok q hq
  unfold outB at this
  simp only [Bool.or_eq_true, decide_eq_true_eq, not_or] at this
  omega
/-- a search that ends well keeps who is under way, and only finishes more -/
def Keeps (st st' : St) : Prop := (∀ i, st' i = 1 ↔ st i = 1) ∧ (∀ i, st i = 2 → st' i = 2) ∧ (∀ i, st' i ≤ 2)
/-- a rank of what is finished: arrows of what is finished go to what was finished earlier -/
def Ranked (nx : Nat → List Nat) (st : St) (t : Nat → Nat) (c : Nat) : Prop := ∀ a, st a = 2 → t a < c ∧ ∀ b ∈ nx a, st b = 2 ∧ t b < t a
def twos : Nat → St → Nat
  | 0, _ => 0
  | n + 1, st => twos n st + (if st n = 2 then 1 else 0)
theorem twos_le (st : St) : ∀ n, twos n st ≤ n
  | 0 => Nat.le_refl _
  | n + 1 => by have := twos_le st n; unfold twos; split <;> omega
theorem twos_mono {st st' : St} (h : ∀ i, st i = 2 → st' i = 2) : ∀ n, twos n st ≤ twos n st'
  | 0 => Nat.le_refl _
  | n + 1 => by
    have := twos_mono h n
    unfold twos
    by_cases h2 : st n = 2
    · rw [if_pos h2, if_pos (h n h2)]; omega
    · rw [if_neg h2]; omega
theorem twos_upd {st : St} {a : Nat} (h : st a ≠ 2) : ∀ n, a < n → twos n (upd st a 2) = twos n st + 1
  | 0, ha => by omega
  | n + 1, ha => by
    unfold twos
    by_cases hn : n = a
    · subst hn
      have e1 : upd st n 2 n = 2 := by unfold upd; rw [if_pos rfl]
      have e2 : ∀ m, m ≤ n → twos m (upd st n 2) = twos m st := by
        intro m
        induction m with
        | zero => intro _; rfl
        | succ m ih =>
          intro hm
          have e3 : upd st n 2 m = st m := by unfold upd; rw [if_neg (by omega)]
          unfold twos
          rw [ih (by omega), e3]
      rw [e1, if_pos rfl, if_neg h, e2 n (Nat.le_refl _)]
    · have := twos_upd h n (by omega)
      have e3 : upd st a 2 n = st n := by unfold upd; rw [if_neg hn]
      rw [this, e3]; omega
def GoodD (nx : Nat → List Nat) (n : Nat) (f : St → Nat → Bool × St) : Prop := ∀ st a, a < n → (∀ i, st i ≤ 2) → (f st a).1 = true →
  Keeps st (f st a).2 ∧ (f st a).2 a = 2 ∧ ∀ t, Ranked nx st t (twos n st) → ∃ t', Ranked nx (f st a).2 t' (twos n (f st a).2)
theorem dfsL_good {nx : Nat → List Nat} {n : Nat} {f : St → Nat → Bool × St} (hf : GoodD nx n f) : ∀ (l : List Nat) (st : St), (∀ b ∈ l, b < n) → (∀ i, st i ≤ 2) → (dfsL f st l).1 = true →
    Keeps st (dfsL f st l).2 ∧ (∀ b ∈ l, (dfsL f st l).2 b = 2) ∧ ∀ t, Ranked nx st t (twos n st) → ∃ t', Ranked nx (dfsL f st l).2 t' (twos n (dfsL f st l).2)
  | [], st, _, h2, _ => ⟨⟨fun _ => Iff.rfl, fun _ h => h, h2⟩, by simp, fun t ht => ⟨t, ht⟩⟩
  | b :: r, st, hb, h2, h => by
    unfold dfsL at h ⊢
    by_cases hc : (f st b).1 = true
    · rw [if_pos hc] at h ⊢
      obtain ⟨⟨k1, k2, k3⟩, k4, k5⟩ := hf st b (hb b (by simp)) h2 hc
      obtain ⟨⟨g1, g2, g3⟩, g4, g5⟩ := dfsL_good hf r (f st b).2 (fun c hcr => hb c (by simp [hcr])) k3 h
      refine ⟨⟨fun i => (g1 i).trans (k1 i), fun i hi => g2 i (k2 i hi), g3⟩, ?_, ?_⟩
      · intro c hcm
        rcases List.mem_cons.1 hcm with rfl | hcm
        · exact g2 _ k4
        · exact g4 c hcm
      · intro t ht
        obtain ⟨t1, ht1⟩ := k5 t ht
        exact g5 t1 ht1
    · rw [if_neg hc] at h; exact absurd h (by simp)
theorem dfs_good {nx : Nat → List Nat} {n : Nat} (hn : ∀ a, ∀ b ∈ nx a, b < n) : ∀ f, GoodD nx n (dfs nx f)
  | 0, st, a, _, _, h => by simp [dfs] at h
  | f + 1, st, a, ha, h2, h => by
    unfold dfs at h ⊢
    by_cases hp : 0 < st a
    · rw [if_pos hp] at h ⊢
      have e : st a = 2 := by simpa using h
      exact ⟨⟨fun _ => Iff.rfl, fun _ h => h, h2⟩, e, fun t ht => ⟨t, ht⟩⟩
    · rw [if_neg hp] at h ⊢
      by_cases hc : (dfsL (dfs nx f) (upd st a 1) (nx a)).1 = true
      · rw [if_pos hc] at h ⊢
        have hu2 : ∀ i, upd st a 1 i ≤ 2 := by intro i; unfold upd; split; omega; exact h2 i
        obtain ⟨⟨g1, g2, g3⟩, g4, g5⟩ := dfsL_good (dfs_good hn f) (nx a) (upd st a 1) (hn a) hu2 hc
        generalize (dfsL (dfs nx f) (upd st a 1) (nx a)).2 = s at *
        have sa : s a = 1 := (g1 a).2 (by unfold upd; rw [if_pos rfl])
        have ha0 : st a = 0 := by omega
        refine ⟨⟨?_, ?_, ?_⟩, by dsimp only; unfold upd; rw [if_pos rfl], ?_⟩
        · intro i
          dsimp only
          by_cases hi : i = a
          · subst hi; unfold upd; rw [if_pos rfl]; omega
          · have e1 : upd s a 2 i = s i := by unfold upd; rw [if_neg hi]
            have e2 : upd st a 1 i = st i := by unfold upd; rw [if_neg hi]
            rw [e1, g1 i, e2]
        · intro i hi
          dsimp only
          by_cases hia : i = a
          · subst hia; unfold upd; rw [if_pos rfl]
          · have e1 : upd s a 2 i = s i := by unfold upd; rw [if_neg hia]
            rw [e1]; exact g2 i (by unfold upd; rw [if_neg hia]; exact hi)
        · intro i; dsimp only; unfold upd; split; omega; exact g3 i
        · intro t ht
          have hru : Ranked nx (upd st a 1) t (twos n (upd st a 1)) := by
            have e : ∀ i, upd st a 1 i = 2 ↔ st i = 2 := by
              intro i; unfold upd; by_cases hi : i = a
              · rw [if_pos hi, hi]; omega
              · rw [if_neg hi]
            have e4 : ∀ m, twos m (upd st a 1) = twos m st := by
              intro m
              induction m with
              | zero => rfl
              | succ m ih => unfold twos; rw [ih]; simp only [e]
            intro c hc
            rw [e4]
            obtain ⟨r1, r2⟩ := ht c ((e c).1 hc)
            exact ⟨r1, fun b hb => ⟨(e b).2 (r2 b hb).1, (r2 b hb).2⟩⟩
          obtain ⟨t', ht'⟩ := g5 t hru
          refine ⟨fun i => if i = a then twos n s else t' i, ?_⟩
          dsimp only
          rw [twos_upd (by omega) n ha]
          intro c hc
          dsimp only
          by_cases hca : c = a
          · subst hca
            rw [if_pos rfl]
            refine ⟨by omega, fun b hb => ?_⟩
            have hb2 := g4 b hb
            have hbc : b ≠ c := by intro e; subst e; omega
            refine ⟨by unfold upd; rw [if_neg hbc]; exact hb2, ?_⟩
            rw [if_neg hbc]
            exact (ht' b hb2).1
          · rw [if_neg hca]
            have e1 : upd s a 2 c = s c := by unfold upd; rw [if_neg hca]
            rw [e1] at hc
            obtain ⟨r1, r2⟩ := ht' c hc
            refine ⟨by omega, fun b hb => ?_⟩
            have hb2 := (r2 b hb).1
            have hbc : b ≠ a := by intro e; subst e; omega
            refine ⟨by unfold upd; rw [if_neg hbc]; exact hb2, ?_⟩
            rw [if_neg hbc]
            exact (r2 b hb).2
      · rw [if_neg hc] at h; exact absurd h (by simp)
/-- a good search tells a rank of all places -/
theorem acyB_rank {n : Nat} {l : List (Int × Int)} (hok : l.any (outB n) = false) (h : acyB n l = true) : ∃ t : Nat → Nat, ∀ a, a < n → t a < n ∧ ∀ b, Arr l a b → t b < t a := by
  unfold acyB at h
  have hn : ∀ a, ∀ b ∈ nxF l a, b < n := fun a b hb => (arr_lt hok ((mem_nxF hok).1 hb)).2
  obtain ⟨_, g4, g5⟩ := dfsL_good (dfs_good hn 65) (List.range n) (fun _ => 0) (by simp) (by simp) h
  obtain ⟨t, ht⟩ := g5 (fun _ => 0) (by intro c hc; simp at hc)
  refine ⟨t, fun a ha => ?_⟩
  obtain ⟨r1, r2⟩ := ht a (g4 a (by simpa using ha))
  have := twos_le (dfsL (dfs (nxF l) 65) (fun _ => 0) (List.range n)).2 n
  exact ⟨by omega, fun b hb => (r2 b ((mem_nxF hok).2 hb)).2⟩
theorem takeP_gone {l : List (Int × Int)} {g : Gone} {p : Nat} (h : ledB l g p = false) : takeP l g p p = true := by
  unfold takeP updB
  rw [h]
  simp
theorem ledB_mono {l : List (Int × Int)} {g g' : Gone} {p : Nat} (hg : ∀ i, g i = true → g' i = true) (h : ledB l g p = false) : ledB l g' p = false := by
  unfold ledB at *
  rw [List.any_eq_false] at *
  intro q hq hh
  refine h q hq ?_
  simp only [Bool.and_eq_true, Bool.not_eq_true'] at *
  refine ⟨hh.1, ?_⟩
  cases hgq : g q.1.toNat with
  | false => rfl
  | true => rw [hg _ hgq] at hh; simp at hh
theorem passTo_gone {l : List (Int × Int)} {g : Gone} {k p : Nat} (hp : p < k) (h : ledB l g p = false) : passTo l g k p = true := by
  induction k with
  | zero => omega
  | succ k ih =>
    rw [passTo_succ]
    by_cases hk : p = k
    · subst hk
      exact takeP_gone (ledB_mono (fun i hi => passTo_mono _ _ _ _ hi) h)
    · exact takeP_mono _ _ _ _ (ih (by omega))
theorem rank_no_circle {n : Nat} {l : List (Int × Int)} (hok : l.any (outB n) = false) {t : Nat → Nat} (ht : ∀ a, a < n → t a < n ∧ ∀ b, Arr l a b → t b < t a) : circleB n l = false := by
  have key : ∀ r p, p < n → n ≤ t p + r → roundsTo l n r p = true := by
    intro r
    induction r with
    | zero => intro p hp h; have := (ht p hp).1; omega
    | succ r ih =>
      intro p hp h
      unfold roundsTo
      refine passTo_gone hp ?_
      unfold ledB
      rw [List.any_eq_false]
      intro q hq hh
      simp only [Bool.and_eq_true, beq_iff_eq, Bool.not_eq_true'] at hh
      have hin := hok
      rw [List.any_eq_false] at hin
      have := hin q hq
      unfold outB at this
      simp only [Bool.or_eq_true, decide_eq_true_eq, not_or] at this
      have hA : Arr l q.1.toNat p := ⟨q, hq, by omega, hh.1⟩
      have hl := arr_lt hok hA
      have := (ht _ hl.1).2 p hA
      have := ih q.1.toNat hl.1 (by omega)
      rw [this] at hh; simp at hh
  unfold circleB
  rw [List.any_eq_false]
  intro p hp
  rw [key n p (by simpa using hp) (by omega)]
  simp
/-- a search that fails has met its own way -/
def BadD (l : List (Int × Int)) (f : St → Nat → Bool × St) (m : Nat) : Prop := ∀ st a, a < 64 → (∀ i, st i ≤ 2) → whites 64 st < m → (∀ u, st u = 1 → Way l u a) → (f st a).1 = false → ∃ c, Way l c c
theorem whites_keeps {st st' : St} (h : ∀ i, st' i = 0 → st i = 0) : ∀ n, whites n st' ≤ whites n st
  | 0 => Nat.le_refl _
  | n + 1 => by
    have := whites_keeps h n
    unfold whites
    by_cases h2 : st' n = 0
    · rw [if_pos h2, if_pos (h n h2)]; omega
    · rw [if_neg h2]; omega
theorem Keeps.white {st st' : St} (h : Keeps st st') (h2 : ∀ i, st i ≤ 2) : ∀ i, st' i = 0 → st i = 0 := by
  intro i hi
  have h1 := h.1 i
  have h3 := h.2.1 i
  have := h2 i
  by_cases e0 : st i = 0
  · exact e0
  · by_cases e1 : st i = 1
    · have := h1.2 e1; omega
    · have := h3 (by omega); omega
theorem dfsL_bad {l : List (Int × Int)} {nx : Nat → List Nat} {f : St → Nat → Bool × St} {m : Nat} (hg : GoodD nx 64 f) (hf : BadD l f m) (a : Nat) : ∀ (r : List Nat) (st : St), (∀ b ∈ r, b < 64 ∧ Arr l a b) → (∀ i, st i ≤ 2) → whites 64 st < m → (∀ u, st u = 1 → u = a ∨ Way l u a) → (dfsL f st r).1 = false → ∃ c, Way l c c
  | [], st, _, _, _, _, h => by simp [dfsL] at h
  | b :: r, st, hb, h2, hw, hu, h => by
    unfold dfsL at h
    have hba := hb b (by simp)
    by_cases hc : (f st b).1 = true
    · rw [if_pos hc] at h
      obtain ⟨k, _, _⟩ := hg st b hba.1 h2 hc
      refine dfsL_bad hg hf a r (f st b).2 (fun c hcr => hb c (by simp [hcr])) k.2.2 ?_ (fun u hu1 => hu u ((k.1 u).1 hu1)) h
      exact Nat.lt_of_le_of_lt (whites_keeps (k.white h2) 64) hw
    · refine hf st b hba.1 h2 hw ?_ (by simpa using hc)
      intro u hu1
      rcases hu u hu1 with rfl | hw1
      · exact Way.one hba.2
      · exact Way.more hw1 hba.2
theorem dfs_bad {n : Nat} {l : List (Int × Int)} (hn : n ≤ 64) (hok : l.any (outB n) = false) : ∀ f, BadD l (dfs (nxF l) f) f
  | 0, st, a, _, _, hw, _, _ => by omega
  | f + 1, st, a, ha, h2, hw, hu, h => by
    unfold dfs at h
    by_cases hp : 0 < st a
    · rw [if_pos hp] at h
      have e : st a ≠ 2 := by simpa using h
      have := h2 a
      exact ⟨a, hu a (by omega)⟩
    · rw [if_neg hp] at h
      have h64 : ∀ a, ∀ b ∈ nxF l a, b < 64 := fun a b hb => by have := (arr_lt hok ((mem_nxF hok).1 hb)).2; omega
      by_cases hc : (dfsL (dfs (nxF l) f) (upd st a 1) (nxF l a)).1 = true
      · rw [if_pos hc] at h; simp at h
      · refine dfsL_bad (dfs_good h64 f) (dfs_bad hn hok f) a (nxF l a) (upd st a 1) (fun b hb => ⟨h64 a b hb, (mem_nxF hok).1 hb⟩) ?_ ?_ ?_ (by simpa using hc)
        · intro i; unfold upd; split; omega; exact h2 i
        · have := whites_upd_lt a 1 st (by omega) (by omega) 64 ha; omega
        · intro u hu1
          unfold upd at hu1
          by_cases hua : u = a
          · exact Or.inl hua
          · rw [if_neg hua] at hu1; exact Or.inr (hu u hu1)
theorem range_bad {n : Nat} {l : List (Int × Int)} (hn : n ≤ 64) (hok : l.any (outB n) = false) : ∀ (r : List Nat) (st : St), (∀ b ∈ r, b < 64) → (∀ i, st i ≤ 2) → (∀ u, st u ≠ 1) → (dfsL (dfs (nxF l) 65) st r).1 = false → ∃ c, Way l c c
  | [], st, _, _, _, h => by simp [dfsL] at h
  | b :: r, st, hb, h2, hu, h => by
    have h64 : ∀ a, ∀ b ∈ nxF l a, b < 64 := fun a b hb => by have := (arr_lt hok ((mem_nxF hok).1 hb)).2; omega
    unfold dfsL at h
    by_cases hc : (dfs (nxF l) 65 st b).1 = true
    · rw [if_pos hc] at h
      obtain ⟨k, _, _⟩ := dfs_good h64 65 st b (hb b (by simp)) h2 hc
      exact range_bad hn hok r _ (fun c hcr => hb c (by simp [hcr])) k.2.2 (fun u e => hu u ((k.1 u).1 e)) h
    · have := whites_le st 64
      exact dfs_bad hn hok 65 st b (hb b (by simp)) h2 (by omega) (fun u e => absurd e (hu u)) (by simpa using hc)
/-- what has a way to itself is never taken away -/
theorem way_circle {n : Nat} {l : List (Int × Int)} (hok : l.any (outB n) = false) {c : Nat} (h : Way l c c) : circleB n l = true := by
  have keep1 : ∀ (g : Gone) (p : Nat), (∀ x, Way l c x → g x = false) → ∀ x, Way l c x → takeP l g p x = false := by
    intro g p hg x hx
    unfold takeP
    split
    · exact hg x hx
    · rename_i hl
      unfold updB
      by_cases hxp : x = p
      · exfalso
        refine hl ?_
        subst hxp
        have hy : ∃ y, Arr l y x ∧ Way l c y := by
          cases hx with
          | one hA => exact ⟨c, hA, h⟩
          | more hw hA => exact ⟨_, hA, hw⟩
        obtain ⟨y, ⟨q, hq, h1, h2⟩, hy⟩ := hy
        unfold ledB
        rw [List.any_eq_true]
        refine ⟨q, hq, ?_⟩
        have e : q.1.toNat = y := by omega
        rw [e, hg y hy]
        simp [h2]
      · rw [if_neg hxp]; exact hg x hx
  have keep2 : ∀ (k : Nat) (g : Gone), (∀ x, Way l c x → g x = false) → ∀ x, Way l c x → passTo l g k x = false := by
    intro k
    induction k with
    | zero => intro g hg; exact hg
    | succ k ih => intro g hg; rw [passTo_succ]; exact keep1 _ _ (ih g hg)
  have keep3 : ∀ r, ∀ x, Way l c x → roundsTo l n r x = false := by
    intro r
    induction r with
    | zero => intro x _; rfl
    | succ r ih => unfold roundsTo; exact keep2 _ _ ih
  unfold circleB
  rw [List.any_eq_true]
  have hlt : c < n := by
    cases h with
    | one hA => exact (arr_lt hok hA).1
    | more _ hA => exact (arr_lt hok hA).2
  exact ⟨c, by simpa using hlt, by rw [keep3 n c h]; rfl⟩
theorem acy_circle {n : Nat} {l : List (Int × Int)} (hn : n ≤ 64) (hok : l.any (outB n) = false) : acyB n l = !circleB n l := by
  cases h : acyB n l with
  | true =>
    obtain ⟨t, ht⟩ := acyB_rank hok h
    rw [rank_no_circle hok ht]; rfl
  | false =>
    obtain ⟨c, hc⟩ := range_bad hn hok (List.range n) (fun _ => 0) (by intro b hb; have := List.mem_range.1 hb; omega) (by simp) (by simp) h
    rw [way_circle hok hc]; rfl
end Go.Proofs.Ytgeaaegkcbjhlaa
