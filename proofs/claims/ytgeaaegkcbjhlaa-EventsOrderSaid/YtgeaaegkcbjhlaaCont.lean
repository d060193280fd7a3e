/- Whether some arrow leads out of the places: Acyclic's first test. -/
import Derived.Test.YtgeaaegkcbjhlaaPairC
import Derived.Test.YtgeaaegkcbjhlaaPz
namespace Go.Proofs.Ytgeaaegkcbjhlaa
open Go.RowKit Go.Shelf Go.Maps Go.Sort

set_option maxHeartbeats 1000000 in
theorem out_c (n : Int) (p : Int × Int) (Bn : Nat) (w : World) (hB : Bn < w.heap.size) (hn : w.cell? ⟨Bn, 0, none⟩ = some (.int .i64 n)) :
    Calls Try.prog 35 #[.agg #[.int .i64 p.1, .int .i64 p.2], .pointer (some ⟨Bn, 0, none⟩)] w fun e w' => e = .returned (.bool (outB n p)) ∧ Below w.heap.size w w' := by
  obtain ⟨a, b⟩ := p
  unfold outB
  dsimp only
  obtain ⟨res, hres⟩ : ∃ z : Bool, (decide (a < 0) || decide (n ≤ a) || decide (b < 0) || decide (n ≤ b)) = z := ⟨_, rfl⟩
  rw [hres]
  have RES := Lib.hid hres
  clear hres
  have hb0 : Below w.heap.size w (w.alloc (.cells #[.int .i64 a, .int .i64 b] 34)) := (Below.refl _ _).alloc (Nat.le_refl _) _
  cases h1 : decide (a < 0) with
  | true =>
    have F : Hid (true = res) := Lib.hid (by rw [← RES.out, h1]; rfl)
    go_enter Try.func35, Try.ntmps35
    go_wp2
    go_ret
    exact ⟨ret_bool F.out, hb0⟩
  | false =>
  cases h2 : decide (n ≤ a) with
  | true =>
    have F : Hid (true = res) := Lib.hid (by rw [← RES.out, h1, h2]; rfl)
    go_enter Try.func35, Try.ntmps35
    go_wp2
    go_ret
    exact ⟨ret_bool F.out, hb0⟩
  | false =>
  cases h3 : decide (b < 0) with
  | true =>
    have F : Hid (true = res) := Lib.hid (by rw [← RES.out, h1, h2, h3]; rfl)
    go_enter Try.func35, Try.ntmps35
    go_wp2
    go_ret
    exact ⟨ret_bool F.out, hb0⟩
  | false =>
  cases h4 : decide (n ≤ b) with
  | true =>
    have F : Hid (true = res) := Lib.hid (by rw [← RES.out, h1, h2, h3, h4]; rfl)
    go_enter Try.func35, Try.ntmps35
    go_wp2
    go_ret
    exact ⟨ret_bool F.out, hb0⟩
  | false =>
    have F : Hid (false = res) := Lib.hid (by rw [← RES.out, h1, h2, h3, h4]; rfl)
    go_enter Try.func35, Try.ntmps35
    go_wp2
    go_ret
    exact ⟨ret_bool F.out, hb0⟩

theorem any_take_succ (n : Int) (l : List (Int × Int)) {k : Nat} (hk : k < l.length) : (l.take (k + 1)).any (outB n) = ((l.take k).any (outB n) || outB n (l.getD k (0, 0))) := by
  rw [List.take_succ_eq_append_getElem hk, List.any_append, List.getD_eq_getElem?_getD, List.getElem?_eq_getElem hk]
  simp only [List.any_cons, List.any_nil, Bool.or_false, Option.getD_some]

set_option maxRecDepth 100000 in
set_option maxHeartbeats 1000000 in
theorem index_c (n : Int) (Bn : Nat) (s : Sl) (l : List (Int × Int)) (w : World) (hB : Bn < w.heap.size) (hn : w.cell? ⟨Bn, 0, none⟩ = some (.int .i64 n)) (hl : PairsZ w.heap.size w s l) :
    Calls Try.prog 53 #[.slice s.a s.n s.c, .func (.func 35) #[] #[.pointer (some ⟨Bn, 0, none⟩)]] w fun e w' => ∃ r : Int, e = .returned (.int .i64 r) ∧ decide (0 ≤ r) = l.any (outB n) ∧ Below w.heap.size w w' := by
  obtain ⟨a, sn, c⟩ := s
  obtain ⟨h1, h2, h3⟩ := hl
  dsimp only at h1 h3
  subst h1
  have H3 := Lib.hid h3
  have OC := Lib.hid (fun p w hB hn => out_c n p Bn w hB hn)
  clear h3
  go_enter Try.func53, Try.ntmps53
  go_wp2
  go_loopw [8] (fun i wr => ∃ k : Nat, k ≤ l.length ∧ i = .int .i64 k ∧ (l.take k).any (outB n) = false ∧ Below w.heap.size w wr) (fun i _ => l.length - (intOf i).toNat)
  case atStart => exact ⟨0, by omega, rfl, rfl, Below.refl _ _⟩
  case round =>
    obtain ⟨k, hk, rfl, hto, hbr⟩ := hrel
    have HTO := Lib.hid hto
    clear hto
    by_cases hlt : k < l.length
    · obtain ⟨b, off, rfl, hbB, hcl⟩ := H3.out.resolve_left (by intro h; rw [h] at hlt; simp at hlt)
      obtain ⟨p, hp⟩ : ∃ p, l.getD k (0, 0) = p := ⟨_, rfl⟩
      have cc := hcl k hlt
      rw [hp] at cc
      have c0 : wr.cell? ⟨b, off + k * 2, none⟩ = some (.int .i64 p.1) := by rw [hbr.cell (p := ⟨b, off + k * 2, none⟩) hbB]; exact cc.1
      have c1 : wr.cell? ⟨b, off + k * 2 + 1, none⟩ = some (.int .i64 p.2) := by rw [hbr.cell (p := ⟨b, off + k * 2 + 1, none⟩) hbB]; exact cc.2
      have HA : Hid ((l.take (k + 1)).any (outB n) = outB n p) := Lib.hid (by rw [any_take_succ n l hlt, HTO.out, hp]; rfl)
      have ctr := Lib.hid (OC.out p wr (by have := hbr.size; omega) ((hbr.cell (p := ⟨Bn, 0, none⟩) hB).trans hn))
      clear hcl cc
      obtain ⟨ob, hob⟩ : ∃ bool_ : Bool, (outB n p) = bool_ := ⟨_, rfl⟩
      have OB := Lib.hid hob
      rw [hob] at ctr
      clear hob hp
      cases ob with
      | true =>
        go_wp2_with (go_at_call 35; refine ctr.out.mono ?_; rintro o w2 ⟨rfl, hb2⟩)
        go_ret
        refine ⟨k, rfl, ?_, hbr.trans (hb2.mono hbr.size)⟩
        have e1 : l.any (outB n) = true := by
          have e2 : (l.take (k + 1)).any (outB n) = true := by rw [HA.out, OB.out]
          rw [List.any_eq_true] at e2 ⊢
          obtain ⟨x, hx, hy⟩ := e2
          exact ⟨x, List.mem_of_mem_take hx, hy⟩
        rw [e1]; simp
      | false =>
        go_wp2_with (go_at_call 35; refine ctr.out.mono ?_; rintro o w2 ⟨rfl, hb2⟩)
        go_roundw
        case rel => first | exact ⟨k + 1, by omega, by go_num, by rw [HA.out, OB.out], hbr.trans (hb2.mono hbr.size)⟩ | ((repeat apply Exists.intro); exact ⟨⟨k + 1, by omega, by go_num, by rw [HA.out, OB.out], hbr.trans (hb2.mono hbr.size)⟩, rfl⟩)
        case measure => simp [intOf]; omega
    · have hke : k = l.length := by omega
      have e1 : l.any (outB n) = false := by have := HTO.out; rwa [hke, List.take_length] at this
      go_wp2
      go_ret
      exact ⟨-1, rfl, by rw [e1]; rfl, hbr⟩

theorem contains_c (n : Int) (Bn : Nat) (s : Sl) (l : List (Int × Int)) (w : World) (hB : Bn < w.heap.size) (hn : w.cell? ⟨Bn, 0, none⟩ = some (.int .i64 n)) (hl : PairsZ w.heap.size w s l) :
    Calls Try.prog 34 #[.slice s.a s.n s.c, .func (.func 35) #[] #[.pointer (some ⟨Bn, 0, none⟩)]] w fun e w' => e = .returned (.bool (l.any (outB n))) ∧ Below w.heap.size w w' := by
  have ctr := Lib.hid (index_c n Bn s l w hB hn hl)
  obtain ⟨res, hres⟩ : ∃ z : Bool, l.any (outB n) = z := ⟨_, rfl⟩
  rw [hres] at ctr ⊢
  clear hres hl
  go_enter Try.func34, Try.ntmps34
  go_wp2_with fail
  refine ctr.out.mono ?_; rintro o w2 ⟨r, rfl, hr, hb2⟩
  cases hd : decide (0 ≤ r) with
  | true =>
    go_wp2
    go_ret
    exact ⟨by rw [← hr, hd]; rfl, hb2⟩
  | false =>
    go_wp2
    go_ret
    exact ⟨by rw [← hr, hd]; rfl, hb2⟩
end Go.Proofs.Ytgeaaegkcbjhlaa
