/- Which store each load reads from: Rf. -/
import Derived.Test.YtgeaaegkcbjhlaaPairC
import Derived.Test.YtgeaaegkcbjhlaaCheck
namespace Go.Proofs.Ytgeaaegkcbjhlaa
open Go.RowKit Go.Shelf Go.Maps Go.Sort

/-- a pair of two places -/
def mkP (a b : Nat) : P2 := (⟨a % 65536, by omega⟩, ⟨b % 65536, by omega⟩)
theorem mkP_1 {a : Nat} (b : Nat) (h : a < 65536) : (mkP a b).1.val = a := Nat.mod_eq_of_lt h
theorem mkP_2 (a : Nat) {b : Nat} (h : b < 65536) : (mkP a b).2.val = b := Nat.mod_eq_of_lt h
def rfTo (zs : List Int) (k : Nat) : List P2 := (List.range k).filterMap (fun b => if 0 ≤ zs.getD b 0 then some (mkP (zs.getD b 0).toNat b) else none)
def rfL (zs : List Int) : List P2 := rfTo zs zs.length
theorem rfTo_succ (zs : List Int) (k : Nat) : rfTo zs (k + 1) = if 0 ≤ zs.getD k 0 then rfTo zs k ++ [mkP (zs.getD k 0).toNat k] else rfTo zs k := by
  unfold rfTo
  rw [List.range_succ, List.filterMap_append]
  by_cases h : 0 ≤ zs.getD k 0
  · rw [if_pos h]
    simp only [List.filterMap_cons, List.filterMap_nil, if_pos h]
  · rw [if_neg h]
    simp only [List.filterMap_cons, List.filterMap_nil, if_neg h, List.append_nil]
theorem rfTo_len (zs : List Int) (k : Nat) : (rfTo zs k).length ≤ k := by
  unfold rfTo
  refine Nat.le_trans (List.length_filterMap_le _ _) (by simp)

set_option maxRecDepth 100000 in
set_option maxHeartbeats 2000000 in
theorem rf1_in (F : Fence) (hF : ∀ f, F.fn f) (n : Nat) (hro : F.round = none) (hn : 1 ≤ n) (l Bx n₀ b off cap : Nat) (zs : List Int) (h64 : zs.length ≤ 65536) (hz : ∀ k, zs.getD k 0 < 65536) (hb : b < n₀) (J Jx : List P2 → World → Prop)
    (hY : ∀ pre x W, J pre W → pre.length < zs.length → YieldAt F (n - 1) Try.prog l #[.agg #[.int .i64 (x.1.val : Int), .int .i64 (x.2.val : Int)]] W fun e W' =>
      (e = .returned (.bool true) ∧ J (pre ++ [x]) W' ∧ Below n₀ W W') ∨ (e = .returned (.bool false) ∧ Jx (pre ++ [x]) W'))
    (W : World) (hBx : W.cell? ⟨Bx, 1, none⟩ = some (.slice (some ⟨b, off, none⟩) zs.length cap)) (hc : ∀ j, j < zs.length → W.cell? ⟨b, off + j, none⟩ = some (.int .i64 (zs.getD j 0))) (h0 : J [] W) :
    CallsIn F n Try.prog 46 #[.func (.yield l) #[] #[], .pointer (some ⟨Bx, 0, none⟩)] W fun e W' => (∃ v, e = .returned v) ∧
      ((∃ ys, ys = rfL zs ∧ J ys W') ∨ (∃ pre : List P2, True ∧ Jx pre W')) := by
  refine callsIn_of_wp Try.func46 rfl (hF _) ?_ hro
  simp only [Try.ntmps46, List.size_toArray, List.length_cons, List.length_nil, Nat.reduceAdd, Nat.reduceSub, Array.replicate_succ, Array.replicate_zero, List.push_toArray, List.append_toArray, List.nil_append, List.cons_append]
  obtain ⟨len, hlen⟩ : ∃ len, zs.length = len := ⟨_, rfl⟩
  have HLEN := Lib.hid hlen
  rw [hlen] at hBx hc hY h64
  clear hlen
  gi_wp2
  gi_loopw [8] (fun i wr => ∃ k : Nat, k ≤ len ∧ i = .int .i64 k ∧ J (rfTo zs k) wr ∧ Below n₀ W wr)
    (fun i _ => len - (intOf i).toNat)
  case atStart => exact ⟨0, Nat.zero_le _, rfl, h0, Below.refl _ _⟩
  case round =>
    obtain ⟨k, hk, rfl, hJs, hnx⟩ := hrel
    have hcx : k < len → wr.cell? ⟨b, off + k, none⟩ = some (.int .i64 (zs.getD k 0)) := fun h => (hnx.cell (p := ⟨b, off + k, none⟩) hb).trans (hc k h)
    by_cases hlt : k < len
    · have hcx' := hcx hlt
      have HT := Lib.hid (rfTo_succ zs k)
      have hzk := hz k
      obtain ⟨z, hzz⟩ : ∃ z, zs.getD k 0 = z := ⟨_, rfl⟩
      rw [hzz] at hcx' HT hzk
      clear hcx hzz
      by_cases h0z : 0 ≤ z
      · obtain ⟨fz, rfl⟩ : ∃ fz : Nat, z = fz := ⟨z.toNat, by omega⟩
        have e1 := mkP_1 k (show fz < 65536 by omega)
        have e2 := mkP_2 fz (show k < 65536 by omega)
        obtain ⟨fn, tmps, assign, body, hy, hR⟩ := hY _ (mkP fz k) wr hJs (by have := rfTo_len zs k; omega)
        rw [e1, e2] at hy
        clear hJs e1 e2
        gi_wp2
        refine hR.mono ?_
        rintro e W3 (⟨rfl, hJ3, hk3⟩ | ⟨rfl, hJx3⟩)
        · gi_wp2
          go_roundw
          case rel => exact ⟨k + 1, by omega, by simp, by rw [HT.out, if_pos h0z]; exact hJ3, hnx.trans hk3⟩
          case measure => simp [intOf]; omega
        · gi_wp2
          refine bodyPost_ret (results_none rfl _ _ _) rfl ?_
          exact ⟨⟨_, rfl⟩, .inr ⟨_, trivial, hJx3⟩⟩
      · gi_wp2
        go_roundw
        case rel => exact ⟨k + 1, by omega, by simp, by rw [HT.out, if_neg h0z]; exact hJs, hnx⟩
        case measure => simp [intOf]; omega
    · have hkl : k = len := by omega
      have e : rfTo zs k = rfL zs := by unfold rfL; rw [HLEN.out, hkl]
      gi_wp2
      go_end0
      exact ⟨⟨_, rfl⟩, .inl ⟨_, e, hJs⟩⟩

set_option maxHeartbeats 1000000 in
theorem rf1_none (F : Fence) (hF : ∀ f, F.fn f) (n : Nat) (hro : F.round = none) (l Bx : Nat) (a : Option Addr) (c : Nat) (J : List P2 → World → Prop) (W : World) (hBs : W.cell? ⟨Bx, 1, none⟩ = some (.slice a 0 c)) (h0 : J [] W) :
    CallsIn F n Try.prog 46 #[.func (.yield l) #[] #[], .pointer (some ⟨Bx, 0, none⟩)] W fun e W' => (∃ v, e = .returned v) ∧ J [] W' := by
  refine callsIn_of_wp Try.func46 rfl (hF _) ?_ hro
  simp only [Try.ntmps46, List.size_toArray, List.length_cons, List.length_nil, Nat.reduceAdd, Nat.reduceSub, Array.replicate_succ, Array.replicate_zero, List.push_toArray, List.append_toArray, List.nil_append, List.cons_append]
  gi_wp2
  gi_loopw [8] (fun i wr => i = .int .i64 0 ∧ J [] wr) (fun _ _ => 0)
  case atStart => exact ⟨rfl, h0⟩
  case round =>
    obtain ⟨rfl, hJs⟩ := hrel
    gi_wp2
    go_end0
    exact ⟨⟨_, rfl⟩, hJs⟩

theorem rf_stops (F : Fence) (hF : ∀ f, F.fn f) (n : Nat) (hro : F.round = none) (hn : 1 ≤ n) (Bx n₀ : Nat) (s : Sl) (zs : List Int) (h64 : zs.length ≤ 65536) (hz : ∀ k, zs.getD k 0 < 65536) (w : World) (hBx : Bx < w.heap.size) (hn₀ : n₀ ≤ w.heap.size)
    (hc : w.cell? ⟨Bx, 1, none⟩ = some (.slice s.a s.n s.c)) (hI : IntsIn .i64 n₀ w s zs) :
    SeqStopsK F n Try.prog 46 #[.pointer (some ⟨Bx, 0, none⟩)] (fun x : P2 => #[.agg #[.int .i64 (x.1.val : Int), .int .i64 (x.2.val : Int)]]) (Below n₀) (fun ys => ys = rfL zs) (fun _ => True) zs.length w := fun l J Jx W hW _ _ hY h0 => by
  have hc' := (hW.cell (p := ⟨Bx, 1, none⟩) hBx).trans hc
  obtain ⟨h1, h2, h3⟩ := hI.below (hW.mono hn₀)
  rw [h1] at hc'
  rcases h3 with rfl | ⟨b, off, h4, hb, hcs⟩
  · exact (rf1_none F hF n hro l Bx s.a s.c J W hc' h0).mono fun e W' ⟨he, hj⟩ => ⟨he, .inl ⟨_, rfl, hj⟩⟩
  · rw [h4] at hc'
    exact rf1_in F hF n hro hn l Bx n₀ b off s.c zs h64 hz hb J Jx hY W hc' hcs h0
theorem enters_rf : ∀ args w, (callFunc 46 args).run Try.prog w = .ok (.enter 46 args) w := enters_of Try.func46 (by kernel_rfl) rfl

theorem rfPairs_c (Bx : Nat) (s : Sl) (zs : List Int) (h64 : zs.length ≤ 65536) (hz : ∀ k, zs.getD k 0 < 65536) (w : World) (hBx : Bx < w.heap.size) (hc : w.cell? ⟨Bx, 1, none⟩ = some (.slice s.a s.n s.c)) (hI : IntsIn .i64 w.heap.size w s zs) :
    Calls Try.prog 43 #[.func (.func 46) #[] #[.pointer (some ⟨Bx, 0, none⟩)]] w fun e w' => ∃ s' : Sl, e = .returned (.slice s'.a s'.n s'.c) ∧ PairsIn w'.heap.size w' s' (sortP (rfL zs)) ∧ Below w.heap.size w w' := by
  refine (pairs_c 46 _ enters_rf (Below w.heap.size) _ _ zs.length (by omega) w belowK_t (belowK_b (Nat.le_refl _)) (fun _ _ _ h => h) 1 (rf_stops Fence.wide (fun _ => trivial) 2 rfl (by omega) Bx w.heap.size s zs h64 hz w hBx (Nat.le_refl _) hc hI)).mono ?_
  rintro e w' ⟨s', ss, rfl, rfl, _, hi, hb⟩
  exact ⟨s', rfl, hi, hb⟩
end Go.Proofs.Ytgeaaegkcbjhlaa
