/- The statement EventsCircles: at every number of places and every list of arrows the call returns true, and leaves its arguments as they were: Acyclic answers as the taking away of places does. -/
import Derived.Test.YtgeaaegkcbjhlaaFrame
import Derived.Test.YtgeaaegkcbjhlaaCircP
import Derived.Test.YtgeaaegkcbjhlaaCirc
import Derived.Test.YtgeaaegkcbjhlaaKnown
namespace Go.Proofs.Ytgeaaegkcbjhlaa.eventsCircles
open Go.RowKit Go.ChangeShapes Go.WideShapes Go.Proofs.Ytgeaaegkcbjhlaa

theorem own : ownKnob Try.prog.godebug = none := by kernel_rfl
/-- what the law's own loop finds -/
def okTo (n : Int) (l : List (Int × Int)) (k : Nat) : Bool := (decide (0 ≤ n) && decide (n ≤ 64)) && !(l.take k).any (outB n)
theorem okTo_succ (n : Int) (l : List (Int × Int)) {k : Nat} (hk : k < l.length) : okTo n l (k + 1) = (okTo n l k && !outB n (l.getD k (0, 0))) := by
  unfold okTo
  rw [any_take_succ n l hk, Bool.not_or]
  simp only [Bool.and_assoc]
theorem okTo_bad (n : Int) (l : List (Int × Int)) : okTo n l l.length = !badB n l := by
  unfold okTo badB
  rw [List.take_length, Bool.not_or, Bool.not_or]
  congr 2
  · rw [← decide_not]; congr 1; apply propext; omega
  · rw [← decide_not]; congr 1; apply propext; omega
theorem outB_not (n : Int) (p : Int × Int) : (!outB n p) = (decide (0 ≤ p.1) && decide (p.1 < n) && decide (0 ≤ p.2) && decide (p.2 < n)) := by
  unfold outB
  rw [Bool.eq_iff_iff]
  simp

set_option maxRecDepth 100000 in
set_option maxHeartbeats 2000000 in
theorem walk_many (n : Int) (s : Sl) (l : List (Int × Int)) (w : World) (hl : PairsZ w.heap.size w s l) (h : 120 < l.length) :
    Calls Try.prog 4 #[.int .i64 n, .slice s.a s.n s.c] w fun e w' => e = .returned (.bool true) ∧ Below w.heap.size w w' := by
  obtain ⟨sa, sn, sc⟩ := s
  obtain ⟨hsn, hls, hrow⟩ := hl
  dsimp only at hsn
  subst hsn
  clear hrow
  go_enter Try.func4, Try.ntmps4
  go_wp2_with (go_at_call 10; refine (known_c _).mono ?_; rintro o w1 ⟨rfl, hb1⟩)
  go_ret
  exact ⟨rfl, hb1⟩

set_option maxRecDepth 100000 in
set_option maxHeartbeats 2000000 in
theorem walk_few (n : Int) (s : Sl) (l : List (Int × Int)) (w : World) (hl : PairsZ w.heap.size w s l) (hfew : l.length ≤ 120) (hnw : -9223372036854775808 ≤ n ∧ n ≤ 9223372036854775807) :
    Calls Try.prog 4 #[.int .i64 n, .slice s.a s.n s.c] w fun e w' => e = .returned (.bool true) ∧ Below w.heap.size w w' := by
  have HL := Lib.hid hl
  obtain ⟨sa, sn, sc⟩ := s
  obtain ⟨hsn, hls, hrow⟩ := hl
  dsimp only at hsn hrow
  subst hsn
  have HROW := Lib.hid hrow
  clear hrow
  go_enter Try.func4, Try.ntmps4
  go_upto_region 3 with (fail)
  go_cut [0, 1, 5] (fun s0 s1 s5 wx => s0 = .int .i64 n ∧ s1 = .slice sa l.length sc ∧ s5 = .bool (okTo n l 0) ∧ w = wx)
  case first =>
    obtain ⟨b0, h0⟩ : ∃ b, decide (0 ≤ n) = b := ⟨_, rfl⟩
    obtain ⟨b1, h1⟩ : ∃ b, decide (n ≤ 64) = b := ⟨_, rfl⟩
    have E : Hid (okTo n l 0 = (b0 && b1)) := Lib.hid (by unfold okTo; rw [h0, h1]; simp)
    cases b0 <;> cases b1
    all_goals
      go_wp2_with fail
      go_meet
      exact ⟨rfl, rfl, by rw [E.out]; rfl, rfl⟩
  case rest =>
  obtain ⟨rfl, rfl, rfl, rfl⟩ := hcut
  go_wp2
  go_loop [5, 6] (fun ok i => ∃ k : Nat, k ≤ l.length ∧ i = .int .i64 k ∧ ok = .bool (okTo n l k)) (fun _ i => l.length - (intOf i).toNat)
  case atStart => exact ⟨0, by omega, rfl, rfl⟩
  case round =>
    obtain ⟨k, hk, rfl, rfl⟩ := hrel
    by_cases hlt : k < l.length
    · obtain ⟨b, off, rfl, hbB, hcl⟩ := HROW.out.resolve_left (by intro h; rw [h] at hlt; simp at hlt)
      obtain ⟨⟨pa, pb⟩, hq⟩ : ∃ p, l.getD k (0, 0) = p := ⟨_, rfl⟩
      have cc := hcl k hlt
      rw [hq] at cc
      obtain ⟨q0, q1⟩ := cc
      dsimp only at q0 q1
      obtain ⟨ok, hok⟩ : ∃ b, okTo n l k = b := ⟨_, rfl⟩
      obtain ⟨b0, h0⟩ : ∃ b, decide (0 ≤ pa) = b := ⟨_, rfl⟩
      obtain ⟨b1, h1⟩ : ∃ b, decide (pa < n) = b := ⟨_, rfl⟩
      obtain ⟨b2, h2⟩ : ∃ b, decide (0 ≤ pb) = b := ⟨_, rfl⟩
      obtain ⟨b3, h3⟩ : ∃ b, decide (pb < n) = b := ⟨_, rfl⟩
      have HS : Hid (okTo n l (k + 1) = (ok && (b0 && b1 && b2 && b3))) := Lib.hid (by rw [okTo_succ n l hlt, hok, hq, outB_not, h0, h1, h2, h3])
      rw [hok]
      clear hcl hq hok
      cases ok with
      | false =>
        go_wp2
        go_round
        case rel => exact ⟨k + 1, by omega, by go_num, by rw [HS.out]; rfl⟩
        case measure => simp [intOf]; omega
      | true =>
      cases b0 with
      | false =>
        go_wp2
        go_round
        case rel => exact ⟨k + 1, by omega, by go_num, by rw [HS.out]; rfl⟩
        case measure => simp [intOf]; omega
      | true =>
      cases b1 with
      | false =>
        go_wp2
        go_round
        case rel => exact ⟨k + 1, by omega, by go_num, by rw [HS.out]; rfl⟩
        case measure => simp [intOf]; omega
      | true =>
      cases b2 with
      | false =>
        go_wp2
        go_round
        case rel => exact ⟨k + 1, by omega, by go_num, by rw [HS.out]; rfl⟩
        case measure => simp [intOf]; omega
      | true =>
      cases b3 <;>
      · go_wp2
        go_round
        case rel => exact ⟨k + 1, by omega, by go_num, by rw [HS.out]; rfl⟩
        case measure => simp [intOf]; omega
    · have hke : k = l.length := by omega
      have AC := Lib.hid (acyclic_c n _ l _ HL.out (by omega))
      obtain ⟨ans, hans⟩ : ∃ b, acyI n l = b := ⟨_, rfl⟩
      rw [hans] at AC
      obtain ⟨ok, hok⟩ : ∃ b, okTo n l k = b := ⟨_, rfl⟩
      rw [hok]
      have hbad : badB n l = !ok := by rw [← hok, hke, okTo_bad]; simp
      cases ok with
      | false =>
        have ha : ans = false := by rw [← hans]; unfold acyI; rw [hbad]; rfl
        subst ha
        clear hans hok hbad hke
        go_wp2_with (first
          | (go_at_call 13; refine AC.out.mono ?_; rintro o w1 ⟨rfl, hb1⟩)
          | (go_at_call 10; refine (known_c _).mono ?_; rintro o w2 ⟨rfl, hb2⟩))
        go_ret
        exact ⟨rfl, hb1.trans (hb2.mono hb1.size)⟩
      | true =>
        have hb3 : badB n l = false := by rw [hbad]; rfl
        unfold badB at hb3
        simp only [Bool.or_eq_false_iff, decide_eq_false_iff_not] at hb3
        obtain ⟨⟨g1, g2⟩, g3⟩ := hb3
        obtain ⟨m, rfl⟩ : ∃ m : Nat, n = m := ⟨n.toNat, by omega⟩
        have ha : circleB m l = !ans := by
          rw [← hans]; unfold acyI; rw [hbad, Int.toNat_natCast, acy_circle (by omega) g3]; simp
        have KC : Hid (∀ W, Calls Try.prog 15 #[.slice sa l.length sc, .bool true] W fun o w' => o = .returned (.slice sa l.length sc) ∧ W = w') := Lib.hid (fun W => (keep_c ⟨sa, l.length, sc⟩ true W).mono (fun _ _ ⟨h1, h2⟩ => ⟨h1, h2.symm⟩))
        have CC : Hid (∀ W, Below w.heap.size w W → w.heap.size ≤ W.heap.size → Calls Try.prog 14 #[.int .i64 (min (m : Int) 64), .slice sa l.length sc] W fun e w' => e = .returned (.bool (!ans)) ∧ Below W.heap.size W w') := Lib.hid (fun W hW hz => by
          rw [← ha, show min (m : Int) 64 = m by omega]
          exact circle_c m ⟨sa, l.length, sc⟩ l W ((HL.out.below hW).mono hz) (by omega) g3 (by omega))
        have hm64 : m ≤ 64 := by omega
        clear hans hok hbad hke g1 g2 g3 ha hnw
        go_wp2_with fail
        refine AC.out.mono ?_; rintro o w1 ⟨rfl, hb1⟩
        go_wp2_with fail
        refine (KC.out _).mono ?_; rintro o w2 ⟨rfl, rfl⟩
        go_wp2_with fail
        refine (CC.out _ hb1 hb1.size).mono ?_; rintro o w3 ⟨rfl, hb3⟩
        cases ans <;>
        · go_wp2_with (go_at_call 10; refine (known_c _).mono ?_; rintro o w4 ⟨rfl, hb4⟩)
          go_ret
          have hb13 := hb1.trans (hb3.mono hb1.size)
          exact ⟨rfl, hb13.trans (hb4.mono hb13.size)⟩
theorem walk (n : Int) (s : Sl) (l : List (Int × Int)) (w : World) (hl : PairsZ w.heap.size w s l) (hnw : -9223372036854775808 ≤ n ∧ n ≤ 9223372036854775807) :
    Calls Try.prog 4 #[.int .i64 n, .slice s.a s.n s.c] w fun e w' => e = .returned (.bool true) ∧ Below w.heap.size w w' := by
  by_cases h : 120 < l.length
  · exact walk_many n s l w hl h
  · exact walk_few n s l w hl (by omega) hnw

/-! ### the row's step -/
set_option maxRecDepth 100000 in
theorem lifted (os : Os) (started : os.Started) (H : Type) (enc : TypeId × Value → H) :
    ReturnsInHanded {} Try.checked os 4 .any (Rows.eventsCirclesSpec.pre6 enc Try.prog Try.f4 Rows.eventsCirclesRow.domain false) (Rows.eventsCirclesSpec.post enc Try.prog Try.f4 false true false false) := by
  refine returnsInHanded_of_change_sized (C := Try.checked) own started (by kernel_rfl) Try.func4
    (ChangeSpec.witness6 (enc := enc) (C := Try.checked) false ⟨#[], #[.int .i64 0, .slice none 0 0], []⟩ 8 (by kernel_rfl) (by kernel_rfl) (by kernel_rfl) (by kernel_rfl)) ?_
  intro W base args ds gs before hval0 hW _ hsz0 _
  have hsz : (DataW.weightsEach Try.prog (Try.f4.params.toList ++ Rows.eventsCirclesSpec.plain.varTypes Try.prog) (ds ++ gs)).all (· ≤ reachBytes) = true := hsz0
  clear hsz0
  have hval : ∀ (j : Nat) t v, Try.f4.params[j]? = some t → args[j]? = some v → Value.okWide Try.prog W .any base t v := hval0
  have hW' := hW
  obtain ⟨p, q, hA0, hV, rfl, _, _⟩ := hW
  have hA : DataW.TrodAll enc Try.prog W 0 (fun _ => true) true Try.f4.params.toList args.toList ds p := hA0
  rw [Try.params4] at hA hval hsz
  obtain ⟨rfl, rfl⟩ := trodVars_none hV
  simp only [List.append_nil] at hW'
  have hlt : ∀ x ∈ p, x.block < W.heap.size := fun x hx => by simpa using hW'.lt x hx
  have hAk := hA
  obtain ⟨v0, v1, d0, d1, p0, p1, rfl, rfl, rfl, h0, h1⟩ := trodAll_two hA
  obtain ⟨n, rfl, rfl, rfl, wn⟩ := open_int Try.underlying3 (hval 0 3 v0 rfl rfl) h0
  obtain ⟨a0, len, cap, rfl⟩ := okWide_slice Try.underlying32 (hval 1 32 v1 rfl rfl)
  obtain ⟨fuel, hf⟩ := h1
  obtain ⟨s, l, hcs, hl, _⟩ := pairs_in Try.underlying32 Try.underlying34 (by kernel_rfl) rfl rfl (by kernel_rfl) (by kernel_rfl) (of_decide_eq_true (by kernel_rfl)) (by kernel_rfl) (by kernel_rfl) hf (w_arg hsz (j := 1) rfl rfl)
  simp only [Value.cells, List.cons.injEq, and_true] at hcs
  rw [hcs]
  have wn2 : -9223372036854775808 ≤ n ∧ n ≤ 9223372036854775807 := by
    simp only [Lit.wf, Bool.and_eq_true, decide_eq_true_eq] at wn
    have e1 : IntKind.i64.min = -9223372036854775808 := by decide
    have e2 : IntKind.i64.max = 9223372036854775807 := by decide
    omega
  refine (walk n s l W hl wn2).mono fun e W' ⟨he, hb⟩ => ?_
  subst he
  rw [← hcs]
  exact ⟨_, rfl, _, _, _, [], _, [], hW', trodAll_cons_mk (shut_bool Try.underlying4 _) trodAll_mk0, stays_all laid_ok hb (by intro t ht; simp only [List.mem_cons, List.not_mem_nil, or_false] at ht; rcases ht with rfl | rfl <;> exact ⟨by kernel_rfl, of_decide_eq_true (by kernel_rfl)⟩) hAk hlt _ (fun q hq => by simpa using hlt q hq), rfl, hb.frame _, fun h => by cases h⟩

theorem over : Rows.eventsCirclesRow.holds Try.pinned (OpenSpec.ofChange Rows.eventsCirclesSpec) :=
  OpenClaim.holds_of_wide 4 Try.f4 rfl rfl rfl rfl rfl rfl rfl ⟨rfl, rfl, rfl, rfl, rfl⟩ rfl rfl rfl rfl rfl (by kernel_rfl) Try.func4 (by kernel_rfl)
    (of_decide_eq_true (by kernel_rfl)) (by unfold Func.isWrapper; first | (rw [if_pos (by decide +kernel)]; kernel_rfl) | (rw [if_neg (by decide +kernel)]; exact ⟨rfl, rfl⟩))
    (fun os started H enc _ => lifted os started H enc)
theorem proved : Rows.EventsCirclesSaid := over
end Go.Proofs.Ytgeaaegkcbjhlaa.eventsCircles
