/- Parts. -/
import Derived.Sort.AssemblyPlain
import Derived.Sort.WalkA14
import Derived.Lib.Bytealg
import Derived.Test.YtjogffchdejabaaGreatDoorPp21
set_option linter.unusedVariables false
set_option linter.unusedSimpArgs false
set_option maxHeartbeats 4000000
namespace Go.Proofs.YtjogffchdejabaaGreatDoor
section
open Go.Sort Go.RowKit
theorem insertion_u_nil (p : Option Addr) (cap : Nat) (w : World) :
  Calls Tryz.prog 287 #[.slice p 0 cap, .int .i64 0, .int .i64 0] w fun e w' => e = .returned (.tuple #[]) ∧ w' = w := by
 go_enter Tryz.func287, Tryz.ntmps287
 go_wp2
 refine wp_loop_rounds 1 ?_
 rw [rounds_succ]
 go_wp2
 go_end0
 exact ⟨rfl, rfl⟩
set_option maxRecDepth 100000 in
theorem pdqsort_u_nil (p : Option Addr) (cap : Nat) (w : World) :
  Calls Tryz.prog 278 #[.slice p 0 cap, .int .i64 0, .int .i64 0, .int .i64 0] w fun e w' => e = .returned (.tuple #[]) ∧ w' = w := by
 go_enter Tryz.func278, Tryz.ntmps278
 go_wp2
 refine wp_loop_rounds 1 ?_
 rw [rounds_succ]
 go_wp2_with (first | (go_at_call 287; refine (insertion_u_nil p cap _).mono ?_; rintro e w' ⟨rfl, rfl⟩))
 refine bodyPost_ret (results_none rfl _ _ _) rfl ?_
 exact ⟨rfl, rfl⟩
set_option maxRecDepth 100000 in
theorem Sort_u_nil (p : Option Addr) (cap : Nat) (w : World) :
  Calls Tryz.prog 254 #[.slice p 0 cap] w fun e w' => e = .returned (.tuple #[]) ∧ w' = w := by
 have hLen : ∀ w, Calls Tryz.prog 105 #[.int .u64 0] w fun e w' => e = .returned (.int .i64 0) ∧ w' = w := fun w => Tryz.bits_Len 0 w (by omega) (by omega)
 go_enter Tryz.func254, Tryz.ntmps254
 go_wp2_with (first
  | (go_at_call 105; refine (hLen _).mono ?_; rintro e w' ⟨rfl, rfl⟩)
  | (go_at_call 278; refine (pdqsort_u_nil p cap _).mono ?_; rintro e w' ⟨rfl, rfl⟩))
 go_end0
 exact ⟨rfl, rfl⟩
set_option maxRecDepth 100000 in
theorem pdqsort_u_s (blk off cap limit : Nat) (d : Array Int) (w : World) (hH : Holds encU w blk off d) (hsz : d.size ≤ 12) :
  Calls Tryz.prog 278 #[.slice (some ⟨blk, off, none⟩) d.size cap, .int .i64 0, .int .i64 d.size, .int .i64 limit] w fun e w' => e = .returned (.tuple #[]) ∧ ∃ n, w' = putRow encU (Sort.ahead w n) blk off (Sort.insertionSort ltInt d 0 d.size) := by
 have HH : Hid (Holds encU w blk off d) := hH
 clear hH
 have h12z : (d.size : Int) - 0 ≤ 12 := by omega
 go_enter Tryz.func278, Tryz.ntmps278
 go_wp2
 refine wp_loop_rounds 1 ?_
 rw [rounds_succ]
 have hc := insertion_u blk off cap 0 d.size d w HH.out (Nat.zero_le _) (Nat.le_refl _) (by omega)
 go_wp2_with (first | (go_at_call 287; refine hc.mono ?_; rintro e w' ⟨rfl, n, rfl⟩))
 refine bodyPost_ret (results_none rfl _ _ _) rfl ?_
 exact ⟨rfl, n, rfl⟩
set_option maxRecDepth 100000 in
theorem slices_Sort_us (blk off cap : Nat) (zs : List Int) (w : World) (hH : Holds encU w blk off zs.toArray) (hsz : zs.length ≤ 12) :
  Calls Tryz.prog 254 #[.slice (some ⟨blk, off, none⟩) zs.length cap] w fun e w' =>
   e = .returned (.tuple #[]) ∧ ∃ n os, w' = grow (putRow encU (Sort.ahead w n) blk off (zs.mergeSort fun x y => decide (x ≤ y)).toArray) os := by
 obtain ⟨d, hd⟩ : ∃ d, d = zs.toArray := ⟨_, rfl⟩
 have hz : zs.length = d.size := by rw [hd]; simp
 have e1 : Sort.insertionSort ltInt d 0 d.size = (zs.mergeSort fun x y => decide (x ≤ y)).toArray := by
  rw [← sortInt zs, ← hd]
  exact (pdq_small (lt := ltInt) (d := d) (a := 0) (b := d.size) (limit := bitsLen d.size) (by omega)).symm
 rw [← hd] at hH
 rw [hz, ← e1]
 have hsd : d.size ≤ 12 := by omega
 have hsz2 : d.size < 4611686018427387904 := by omega
 clear e1 hz hsz hd
 have HH : Hid (Holds encU w blk off d) := hH
 clear hH
 have hLen : ∀ w, Calls Tryz.prog 105 #[.int .u64 (d.size : Int)] w fun e w' => e = .returned (.int .i64 (bitsLen d.size : Nat)) ∧ w' = w := fun w => by
  have h := Tryz.bits_Len (d.size : Int) w (by omega) (by omega)
  rwa [Int.toNat_natCast, bitLen_eq _ (by omega)] at h
 have hk : bitsLen d.size ≤ 62 := (bitsLen_le_iff d.size 62).2 (by omega)
 go_enter Tryz.func254, Tryz.ntmps254
 go_wp2_with (first
  | (go_at_call 105; refine (hLen _).mono ?_; rintro e w' ⟨rfl, rfl⟩)
  | (go_at_call 278; refine (pdqsort_u_s blk off cap (bitsLen d.size) d _ (by exact HH.out) (by omega)).mono ?_; rintro e w' ⟨rfl, n, rfl⟩))
 go_end0
 exact ⟨rfl, n, #[], by rw [grow, Array.append_empty]⟩
end
section
open Go.RowKit Go.Shelf Go.Maps Go.Sort
set_option maxRecDepth 100000 in
set_option maxHeartbeats 1000000 in
theorem keys1_uo {H : Type} (F : Fence) (hF : ∀ f, F.fn f) (n : Nat) (hro : F.round = none) (hn : 1 ≤ n) (l Bm Bo b nn : Nat) (D0 : DataW H) (J Jx : List Int → World → Prop)
  (hY : ∀ pre x W, J pre W → pre.length < Maps.size D0 → YieldAt F (n - 1) Tryz.prog l #[.int .u32 x] W fun e W' =>
   (e = .returned (.bool true) ∧ J (pre ++ [x]) W' ∧ KeepsWalks W W') ∨ (e = .returned (.bool false) ∧ Jx (pre ++ [x]) W'))
  (W : World) (hJ : AbidesFrom W.heap.size J) (hm : W.cell? ⟨Bm, Bo, none⟩ = some (.map (some b))) (hown : W.ownsMap Tryz.prog 34 (plainElem Tryz.prog 3) b nn D0) (h0 : J [] W) :
  CallsIn F n Tryz.prog 255 #[.func (.yield l) #[] #[], .pointer (some ⟨Bm, Bo, none⟩)] W fun e W' => (∃ v, e = .returned v) ∧
   ((∃ ss : List Int, KeysAre D0 ss ∧ J ss W') ∨ (∃ pre : List Int, True ∧ Jx pre W')) := by
 refine callsIn_of_wp Tryz.func255 rfl (hF _) ?_ hro
 simp only [Tryz.ntmps255, List.size_toArray, List.length_cons, List.length_nil, Nat.reduceAdd, Nat.reduceSub, Array.replicate_succ, Array.replicate_zero, List.push_toArray, List.append_toArray, List.nil_append, List.cons_append]
 gi_wp2_with (first
  | (gi_at_range; refine wpListIn_range_own _ rfl _ 249 rfl 34 3 lawU Tryz.underlying249 _ b nn _ rfl hown ?_; intro w0 hrg0 hg0 hs0)
  | gi_in)
 go_frame
 gi_loopw [3] (fun _ wr => ∃ (left : Lit → Bool) (cnt : Nat) (ss : List Int), wr.ranges Tryz.prog 34 (plainElem Tryz.prog 3) b W.heap.size nn D0 left cnt ∧ ss.length + cnt ≤ Maps.size D0 ∧ CollectedU D0 left ss ∧ J ss wr)
  (fun _ wr => wr.rangeLeft b W.heap.size)
 case atStart =>
  exact ⟨_, _, [], hrg0, by simp, CollectedU.start D0, hJ [] W w0 none h0 hg0 (fun r e => by cases e)⟩
 case round =>
  obtain ⟨left, cnt, ss, hrg, hcs, hC, hJs⟩ := hrel
  gi_wp2_with (first
   | (gi_at_next; refine wpListIn_next_ranges_ii _ rfl _ rfl 34 3 .u32 .i64 lawU Tryz.underlying34 Tryz.underlying3 b W.heap.size nn _ _ _ rfl hrg ?_ ?_)
   | gi_in)
  ·intro hc0 hl0
   gi_wp2
   go_end0
   exact ⟨⟨_, rfl⟩, .inl ⟨ss, hC.done hl0, hJs⟩⟩
  ·intro x c w2 cnt2 hwx hwc hlk hat hrg2 hlt hg2 hs2 hen
   have hJ2 : J ss w2 := hJ ss wr w2 (some W.heap.size) hJs hg2 (fun r e => by cases e; exact ⟨Nat.le_refl _, hrg.iter_walk⟩)
   obtain ⟨fn, tmps, assign, body, hy, hR⟩ := hY ss x w2 hJ2 (by omega)
   clear hs2
   gi_wp2
   refine hR.mono ?_
   rintro e W3 (⟨rfl, hJ3, hk3⟩ | ⟨rfl, hJx3⟩)
   ·gi_wp2
    have hrg3 := hrg2.of_walks hk3
    go_roundw
    case rel => exact ⟨_, cnt2, ss ++ [x], hrg3, by simp; omega, hC.step hlk hat, hJ3⟩
    case measure => rw [hrg3.left_eq, hrg.left_eq]; exact hlt
   ·gi_wp2
    refine bodyPost_ret (results_none rfl _ _ _) rfl ?_
    exact ⟨⟨_, rfl⟩, .inr ⟨_, trivial, hJx3⟩⟩
theorem keys_stopsO {H : Type} (F : Fence) (hF : ∀ f, F.fn f) (n : Nat) (hro : F.round = none) (hn : 1 ≤ n) (Bm Bo b nn : Nat) (D0 : DataW H) (w : World) (hBm : Bm < w.heap.size)
  (hm : w.cell? ⟨Bm, Bo, none⟩ = some (.map (some b))) (hown : w.ownsMap Tryz.prog 34 (plainElem Tryz.prog 3) b nn D0) :
  SeqStopsK F n Tryz.prog 255 #[.pointer (some ⟨Bm, Bo, none⟩)] (fun x : Int => #[.int .u32 x]) KeepsWalks (KeysAre D0) (fun _ => True) (Maps.size D0) w := fun l J Jx W hW hJ hJx hY h0 => by
 have hown' : W.ownsMap Tryz.prog 34 (plainElem Tryz.prog 3) b nn D0 := by
  have hbl := hown.lt
  obtain ⟨es, clock, hb, Ft, hs, hD⟩ := hown
  exact ⟨es, clock, (hW.block b hbl).trans hb, Ft, hs, hD⟩
 exact keys1_uo F hF n hro hn l Bm Bo b nn D0 J Jx hY W hJ ((hW.cell (p := ⟨Bm, Bo, none⟩) hBm).trans hm) hown' h0
theorem sorts_us (m : Nat) : SortsB_u Fence.wide 12 m :=
 ⟨fun blk off cap ss W hH _ hsz => callsIn_wide.2 (slices_Sort_us blk off cap ss W hH hsz), fun p cap W => callsIn_wide.2 (Sort_u_nil p cap W)⟩
theorem sortedKeys_o (hs : ∀ m, SortsB_u Fence.wide 12 m) (b nn : Nat) (D : DataW Unit) (l : List Int) (w : World) (hown : w.ownsMap Tryz.prog 34 (plainElem Tryz.prog 3) b nn D) (hD : Has D l) (hr : l.Pairwise (· < ·)) (hn : nn ≤ 12) (Bm Bo : Nat) (hBm : Bm < w.heap.size) (hm : w.cell? ⟨Bm, Bo, none⟩ = some (.map (some b))) :
  Calls Tryz.prog 206 #[.func (.func 255) #[] #[.pointer (some ⟨Bm, Bo, none⟩)]] w fun e w' => ∃ v, e = .returned v ∧ w'.ownsRow w.heap.size 34 1 v l.length (l.map (Value.int .u32)) ∧ (v = .slice none 0 0 ↔ l = []) ∧ Below w.heap.size w w' := by
 refine callsIn_wide.1 ((sorted_u Fence.wide (fun _ => trivial) 5 rfl (by omega) (hs _) _ _ enters_keys KeepsWalks _ _ (Maps.size D) ?_ ?_ ?_ w walksK_t walksK_b (fun _ _ h _ => h.walks) (keys_stopsO Fence.wide (fun _ => trivial) _ rfl (by omega) Bm Bo b nn D w hBm hm hown)).mono ?_)
 ·have := hown.size_le
  unfold maxLen; omega
 ·have := hown.size_le
  omega
 ·have := hown.size_le
  omega
 ·rintro e w' ⟨v, ss, rfl, ⟨hnd, hk⟩, _, hrow, hnil, hb⟩
  have e1 := sorted_same hnd hr (fun x => by rw [hk x]; exact hD x)
  have e2 : ss.length = l.length := by rw [← e1, List.length_mergeSort]
  rw [e1, e2] at hrow
  refine ⟨v, rfl, hrow, ?_, hb⟩
  rw [hnil]
  constructor
  ·intro h; subst h; exact List.length_eq_zero_iff.1 e2.symm
  ·intro h; subst h; exact List.length_eq_zero_iff.1 e2
end
namespace Ev
open Go Go.RowKit Go.Maps
noncomputable def ixL (c : Nat) (l : List UInt8) : Nat → Option Nat := @List.rec UInt8 (fun _ => Nat → Option Nat) (fun _ => none) (fun b _ ih i => @Bool.rec (fun _ => Option Nat) (ih (Nat.succ i)) (some i) (Nat.beq b.toNat c)) l
noncomputable def cnL (c : Nat) (l : List UInt8) : Nat := @List.rec UInt8 (fun _ => Nat) 0 (fun b _ ih => @Bool.rec (fun _ => Nat) ih (Nat.succ ih) (Nat.beq b.toNat c)) l
noncomputable def ora2 (f : FuncId) (l : List UInt8) (c : Nat) (s : St) : Option (AV × St) := og (Nat.blt c 256)
 (@Bool.rec (fun _ => Option (AV × St)) (@Bool.rec (fun _ => Option (AV × St)) none (some (.int .i64 (.ofNat (cnL c l)), s)) (Nat.beq f 236))
  (some (@Option.rec Nat (fun _ => AV) (.int .i64 (.negSucc 0)) (fun i => .int .i64 (.ofNat i)) (ixL c l 0), s)) (Nat.beq f 232))
noncomputable def oraB : Ora := fun f args s => match args with
 | [.str l, .int .u8 (.ofNat c)] => ora2 f l c s
 | _ => none
theorem tL {c : Nat} (hc : c < 256) : ∀ (l : List UInt8) (i : Nat), (∀ k, ixL c l i = some k → Lib.indexByte l (UInt8.ofNat c) = (k : Int) - i ∧ i ≤ k) ∧ (ixL c l i = none → Lib.indexByte l (UInt8.ofNat c) = -1)
 | [], i => ⟨fun k h => (by cases h), fun _ => rfl⟩
 | b :: l, i => by
  obtain ⟨h1, h2⟩ := tL hc l (Nat.succ i)
  have e : ixL c (b :: l) i = @Bool.rec (fun _ => Option Nat) (ixL c l (Nat.succ i)) (some i) (Nat.beq b.toNat c) := rfl
  rw [e]
  have hcn : (UInt8.ofNat c).toNat = c := by rw [UInt8.toNat_ofNat']; omega
  cases hb : Nat.beq b.toNat c with
  | true =>
   have : b = UInt8.ofNat c := UInt8.toNat_inj.1 (by rw [hcn]; exact beq_eq hb)
   subst this
   exact ⟨fun k h => (by cases h; simp [Lib.indexByte]), fun h => (by cases h)⟩
  | false =>
   have hne : ¬ b = UInt8.ofNat c := fun e => by
    rw [e, hcn] at hb
    exact Nat.ne_of_beq_eq_false hb rfl
   have hs : Lib.indexByte (b :: l) (UInt8.ofNat c) = if Lib.indexByte l (UInt8.ofNat c) == -1 then -1 else Lib.indexByte l (UInt8.ofNat c) + 1 := by
    simp [Lib.indexByte, hne]
   rw [hs]
   refine ⟨fun k h => ?_, fun h => ?_⟩
   ·obtain ⟨g1, g2⟩ := h1 k h
    have hz : (Lib.indexByte l (UInt8.ofNat c) == -1) = false := by
     rw [g1]; exact beq_eq_false_iff_ne.2 (by omega)
    rw [hz, g1]
    constructor
    ·simp only [Bool.false_eq_true, if_false]; omega
    ·omega
   ·rw [h2 h]; rfl
theorem tX {c : Nat} (hc : c < 256) : ∀ (l : List UInt8), cnL c l = Lib.countByte l (UInt8.ofNat c)
 | [] => rfl
 | b :: l => by
  have e : cnL c (b :: l) = @Bool.rec (fun _ => Nat) (cnL c l) (Nat.succ (cnL c l)) (Nat.beq b.toNat c) := rfl
  have hcn : (UInt8.ofNat c).toNat = c := by rw [UInt8.toNat_ofNat']; omega
  rw [e, tX hc l]
  unfold Lib.countByte
  rw [List.count_cons]
  cases hb : Nat.beq b.toNat c with
  | true =>
   have : b = UInt8.ofNat c := UInt8.toNat_inj.1 (by rw [hcn]; exact beq_eq hb)
   subst this
   simp
  | false =>
   have hne : ¬ b = UInt8.ofNat c := fun e => by
    rw [e, hcn] at hb
    exact Nat.ne_of_beq_eq_false hb rfl
   simp [hne]
theorem run_ix (s : ByteArray) (c : Int) (w : World) : (callFunc 232 #[.string s, .int .u8 c]).run Tryz.prog w = .ok (.value (.int .i64 (Lib.indexByte s.data.toList c.toNat.toUInt8))) w := by
 rw [run_callFunc_extern Tryz.func232 (by kernel_rfl) (by kernel_rfl) (by kernel_rfl) (e := Extern.BytealgIndexByte.indexByte) (by kernel_rfl), Lib.run_indexByteString]
 rfl
theorem run_cn (s : ByteArray) (c : Int) (w : World) : (callFunc 236 #[.string s, .int .u8 c]).run Tryz.prog w = .ok (.value (.int .i64 (Lib.countByte s.data.toList c.toNat.toUInt8))) w := by
 rw [run_callFunc_extern Tryz.func236 (by kernel_rfl) (by kernel_rfl) (by kernel_rfl) (e := Extern.BytealgCount.count) (by kernel_rfl), Lib.run_countString]
 rfl
theorem oraB_ok : OraOk Tryz.prog oraB := fun f args s r h w0 π args' w ha hf hr => by
 unfold oraB at h
 split at h
 ·rename_i l c
  rw [RepL] at ha
  obtain ⟨v, us, e1, h1, h2⟩ := ha
  rw [RepL] at h2
  obtain ⟨v2, us2, e2, h3, h4⟩ := h2
  rw [RepL] at h4
  subst h4 e2
  rw [Rep] at h1
  obtain ⟨bs, rfl, rfl⟩ := h1
  have h3 := vD h3
  subst h3
  have ea : args' = #[.string bs, .int .u8 (Int.ofNat c)] := Array.toList_inj.1 (by rw [e1])
  subst ea
  obtain ⟨hc, h⟩ := uM h
  have hc : c < 256 := xW hc
  have stay : Nx w0 π s π s w := Nx.refl hf hr
  have h : @Bool.rec (fun _ => Option (AV × St)) (@Bool.rec (fun _ => Option (AV × St)) none (some (.int .i64 (.ofNat (cnL c bs.data.toList)), s)) (Nat.beq f 236))
   (some (@Option.rec Nat (fun _ => AV) (.int .i64 (.negSucc 0)) (fun i => .int .i64 (.ofNat i)) (ixL c bs.data.toList 0), s)) (Nat.beq f 232) = some r := h
  have hu : (Int.ofNat c).toNat.toUInt8 = UInt8.ofNat c := rfl
  cases hb : Nat.beq f 232 with
  | true =>
   rw [hb] at h
   have hfe := beq_eq hb
   subst hfe
   cases h
   refine .inl ⟨_, w, run_ix bs _ w, π, stay, _, rfl, ?_⟩
   rw [hu]
   obtain ⟨g1, g2⟩ := tL hc bs.data.toList 0
   cases hi : ixL c bs.data.toList 0 with
   | none =>
    show Rep π (.int .i64 (.negSucc 0)) _
    rw [Rep, g2 hi]; rfl
   | some k =>
    show Rep π (.int .i64 (.ofNat k)) _
    rw [Rep, (g1 k hi).1]
    show Value.int .i64 ((k : Int) - ((0 : Nat) : Int)) = .int .i64 (k : Int)
    rw [show (k : Int) - ((0 : Nat) : Int) = k by omega]
  | false =>
   rw [hb] at h
   cases hb2 : Nat.beq f 236 with
   | false => rw [hb2] at h; cases h
   | true =>
    rw [hb2] at h
    have hfe := beq_eq hb2
    subst hfe
    cases h
    refine .inl ⟨_, w, run_cn bs _ w, π, stay, _, rfl, ?_⟩
    rw [hu, ← tX hc]
    show Rep π (.int .i64 (.ofNat _)) _
    rw [Rep]
    rfl
 ·cases h
noncomputable def keyN (x : AV × AV × Nat) : Option Nat := match x.1 with
 | .int .u32 (.ofNat k) => match x.2.1 with
  | .int .i64 (.ofNat m) => og (Nat.blt k 4294967296 && Nat.blt m 4611686018427387904) (some k)
  | _ => none
 | _ => none
noncomputable def insN (x : Nat) (l : List Nat) : List Nat := @List.rec Nat (fun _ => List Nat) [x] (fun y ys ih => @Bool.rec (fun _ => List Nat) (y :: ih) (x :: y :: ys) (Nat.ble x y)) l
noncomputable def sortN (l : List Nat) : List Nat := @List.rec Nat (fun _ => List Nat) [] (fun x _ ih => insN x ih) l
noncomputable def riseN (l : List Nat) : Bool := @List.rec Nat (fun _ => Bool) true (fun x l ih => @List.rec Nat (fun _ => Bool) true (fun y _ _ => Nat.blt x y && ih) l) l
noncomputable def stampsOk (es : List (AV × AV × Nat)) (c : Nat) : Bool := allL (fun e => Nat.blt e.2.2 c) es && riseN (sortN (mapL (fun e => e.2.2) es))
noncomputable def keysU (s : St) (es : List (AV × AV × Nat)) (c : Nat) : Option (AV × St) := ob (mapO keyN es) fun ks => og (Nat.ble (len es) 12 && (stampsOk es c && riseN (sortN ks)))
 (@List.rec Nat (fun _ => Option (AV × St)) (some (.nils, s)) (fun _ _ _ => some (.sl s.c 0 1 (len ks) none, ⟨s.h.put s.c (.cells true (mapL (fun k => .int .u32 (.ofNat k)) (sortN ks))), Nat.succ s.c⟩)) ks)
noncomputable def oraK1 (s : St) (g : FuncId) (bx : Nat) : Option (AV × St) := og (Nat.beq g 255) (cellsOf s.h bx fun cs => match cs with
 | [.map i] => mapOf s.h i fun es c => keysU s es c
 | _ => none)
noncomputable def oraKeys : Ora := fun f args s => og (Nat.beq f 206) (match args with
 | [.fn g [] [.ptr bx 0]] => oraK1 s g bx
 | _ => none)
theorem lP (x : Nat) : ∀ (l : List Nat), (insN x l).Perm (x :: l)
 | [] => .refl _
 | z :: l => by
  show (@Bool.rec (fun _ => List Nat) (z :: insN x l) (x :: z :: l) (Nat.ble x z)).Perm _
  cases Nat.ble x z with
  | true => exact .refl _
  | false => exact ((lP x l).cons z).trans (.swap x z l)
theorem xE : ∀ (l : List Nat), (sortN l).Perm l
 | [] => .refl _
 | x :: l => (lP x (sortN l)).trans ((xE l).cons x)
theorem dB : ∀ {l : List Nat}, riseN l = true → l.Pairwise (· < ·)
 | [], _ => .nil
 | [x], _ => by simp
 | x :: y :: l, h => by
  obtain ⟨h1, h2⟩ := band (show (Nat.blt x y && riseN (y :: l)) = true from h)
  have h3 := dB h2
  have hxy := xW h1
  refine List.pairwise_cons.2 ⟨fun z hz => ?_, h3⟩
  rcases List.mem_cons.1 hz with rfl | hz
  ·exact hxy
  ·exact Nat.lt_trans hxy ((List.pairwise_cons.1 h3).1 z hz)
theorem bP {l : List Nat} (h : riseN (sortN l) = true) : l.Nodup := (xE l).nodup_iff.1 ((dB h).imp fun h => Nat.ne_of_lt h)
theorem kS {H : Type} (p : Lit × DataW H → Bool) (x : Lit × DataW H) : ∀ (l : List (Lit × DataW H)), (DataW.insert x l).any p = (p x || l.any p)
 | [] => by simp [DataW.insert]
 | y :: l => by
  unfold DataW.insert
  split
  ·rfl
  ·rw [List.any_cons, kS p x l, List.any_cons]
   cases p x <;> cases p y <;> simp
theorem gP {H : Type} (p : Lit × DataW H → Bool) : ∀ (l : List (Lit × DataW H)), (l.foldr DataW.insert []).any p = l.any p
 | [] => rfl
 | x :: l => by rw [List.foldr_cons, kS, gP p l, List.any_cons]
theorem keyN_some {x : AV × AV × Nat} {k : Nat} (h : keyN x = some k) : ∃ m, x.1 = .int .u32 (.ofNat k) ∧ x.2.1 = .int .i64 (.ofNat m) ∧ k < 4294967296 ∧ m < 4611686018427387904 := by
 unfold keyN at h
 split at h
 ·rename_i k' e1
  split at h
  ·rename_i m e2
   obtain ⟨h1, h2⟩ := uM h
   cases h2
   obtain ⟨h3, h4⟩ := band h1
   exact ⟨m, e1, e2, xW h3, xW h4⟩
  ·cases h
 ·cases h
section
variable {w0 w : World} {π : Pl} {s : St}
theorem pC : ∀ {es : List (AV × AV × Nat)} {ks : List Nat} {es' : List MapEntry}, mapO keyN es = some ks → RepE π es es' → es'.map (·.key) = ks.map (fun k : Nat => Value.int .u32 (k : Int)) ∧ es'.map (·.born) = es.map (·.2.2) ∧ (∀ k ∈ ks, k < 4294967296) ∧ ∀ e ∈ es', ∃ k m : Nat, k < 4294967296 ∧ m < 4611686018427387904 ∧ e.key = .int .u32 (k : Int) ∧ e.val = .int .i64 (m : Int)
 | [], ks, es', h, hr => by
  cases h
  have hr : es' = [] := hr
  subst hr
  exact ⟨rfl, rfl, fun k hk => (by cases hk), fun e he => (by cases he)⟩
 | x :: es, ks, es', h, hr => by
  obtain ⟨k, h1, h2⟩ := uB (show ob (keyN x) (fun x => ob (mapO keyN es) fun xs => some (x :: xs)) = some ks from h)
  obtain ⟨ks', h3, h4⟩ := uB h2
  cases h4
  obtain ⟨e, us, rfl, g1, g2, g3, g4⟩ := hr
  obtain ⟨m, e1, e2, e3, e4⟩ := keyN_some h1
  obtain ⟨q1, q2, q3, q4⟩ := pC h3 g4
  rw [e1] at g1
  rw [e2] at g2
  have g1 := vD g1
  have g2 := vD g2
  refine ⟨by rw [List.map_cons, List.map_cons, q1, g1]; rfl, by rw [List.map_cons, List.map_cons, q2, g3], fun k' hk' => ?_, fun e' he' => ?_⟩
  ·rcases List.mem_cons.1 hk' with rfl | hk'
   ·exact e3
   ·exact q3 k' hk'
  ·rcases List.mem_cons.1 he' with rfl | he'
   ·exact ⟨k, m, e3, e4, g1, g2⟩
   ·exact q4 e' he'
theorem uAX {m : Nat} (h : m < 4611686018427387904) : (Lit.int .i64 (m : Int)).wf = true := by
 simp only [Lit.wf, Bool.and_eq_true, decide_eq_true_eq]
 have e1 : IntKind.i64.min = -9223372036854775808 := by decide
 have e2 : IntKind.i64.max = 9223372036854775807 := by decide
 omega
theorem lit32 {m : Nat} (h : m < 4294967296) : (Lit.int .u32 (m : Int)).wf = true := u32_wf (by omega) (by omega)
theorem keys_own {es : List (AV × AV × Nat)} {c b : Nat} {ks : List Nat} {es' : Array MapEntry} (hb : w.heap[b]? = some (.map es' c)) (hr : RepE π es es'.toList) (hks : mapO keyN es = some ks) (hlen : len es ≤ 12) (hst : stampsOk es c = true) (hrise : riseN (sortN ks) = true) :
  ∃ D : DataW Unit, w.ownsMap Tryz.prog 34 (plainElem Tryz.prog 3) b 12 D ∧ Has D ((sortN ks).map (fun k : Nat => (k : Int))) := by
 obtain ⟨q1, q2, q3, q4⟩ := pC hks hr
 obtain ⟨h1, h2⟩ := band hst
 have hsz : es'.size = es.length := by
  have : es'.toList.length = es.length := by
   have := congrArg List.length q2
   simpa using this
  simpa using this
 have hrd : ∀ x ∈ es'.toList, ∃ k m : Nat, k < 4294967296 ∧ x.key = .int .u32 (k : Int) ∧ WideElems.rd (H := Unit) Tryz.prog 34 (plainElem Tryz.prog 3) x = some (.int .u32 (k : Int), .lit (.int .i64 (m : Int))) := fun x hx => by
  obtain ⟨k, m, g1, g2, g3, g4⟩ := q4 x hx
  refine ⟨k, m, g1, g3, ?_⟩
  unfold WideElems.rd
  rw [g3, g4, plainElem_int Tryz.underlying3 (uAX g2)]
  have hk : keyOf Tryz.prog 34 (.int .u32 (k : Int)) = some (.int .u32 (k : Int)) := by
   simp only [keyOf, Tryz.underlying34, mapKey, lit32 g1, and_self, if_true]
  rw [hk]
  rfl
 refine ⟨.map ((es'.toList.map (WideElems.rg Tryz.prog 34 (plainElem Tryz.prog 3))).foldr DataW.insert []), ⟨es', c, hb, ⟨?_, ⟨?_, ?_, ?_⟩, ?_⟩, ?_, rfl⟩, fun x => ?_⟩
 ·rw [hsz, ← wJ]; unfold maxLen; omega
 ·intro x hx
  have hm : x.born ∈ es.map (·.2.2) := by rw [← q2]; exact List.mem_map.2 ⟨x, hx, rfl⟩
  obtain ⟨y, hy, hyb⟩ := List.mem_map.1 hm
  rw [← hyb]
  exact xW (wG h1 y hy)
 ·rw [q2, ← yR]; exact bP h2
 ·rw [q1]
  refine List.nodup_iff_pairwise_ne.2 ?_
  exact List.pairwise_map.2 ((List.nodup_iff_pairwise_ne.1 (bP hrise)).imp fun hne e => hne (by cases e; omega))
 ·intro x hx
  obtain ⟨k, m, _, _, h⟩ := hrd x hx
  exact ⟨_, h⟩
 ·rw [hsz, ← wJ]; exact hlen
 ·show (((es'.toList.map (WideElems.rg Tryz.prog 34 (plainElem Tryz.prog 3))).foldr DataW.insert []).any fun p => p.1.sameKey (.int .u32 x)) = true ↔ _
  rw [gP, List.any_map, List.any_eq_true, List.mem_map]
  constructor
  ·rintro ⟨e, he, h⟩
   obtain ⟨k, m, g1, g2, g3⟩ := hrd e he
   have hg : WideElems.rg (H := Unit) Tryz.prog 34 (plainElem Tryz.prog 3) e = (.int .u32 (k : Int), .lit (.int .i64 (m : Int))) := by unfold WideElems.rg; rw [g3]; rfl
   simp only [Function.comp_apply, hg, Lit.sameKey, true_and, decide_eq_true_eq] at h
   have hk : Value.int .u32 (k : Int) ∈ ks.map (fun k : Nat => Value.int .u32 (k : Int)) := by rw [← q1, ← g2]; exact List.mem_map.2 ⟨e, he, rfl⟩
   obtain ⟨k', hk', e'⟩ := List.mem_map.1 hk
   refine ⟨k', (xE ks).mem_iff.2 hk', ?_⟩
   cases e'
   rw [← h]
  ·rintro ⟨k, hk, rfl⟩
   have hk := (xE ks).mem_iff.1 hk
   have hm : Value.int .u32 (k : Int) ∈ es'.toList.map (·.key) := by rw [q1]; exact List.mem_map.2 ⟨k, hk, rfl⟩
   obtain ⟨e, he, hek⟩ := List.mem_map.1 hm
   refine ⟨e, he, ?_⟩
   obtain ⟨k', m, g1, g2, g3⟩ := hrd e he
   have hg : WideElems.rg (H := Unit) Tryz.prog 34 (plainElem Tryz.prog 3) e = (.int .u32 (k' : Int), .lit (.int .i64 (m : Int))) := by unfold WideElems.rg; rw [g3]; rfl
   simp only [Function.comp_apply, hg, Lit.sameKey, true_and, decide_eq_true_eq]
   have hek : Value.int .u32 (k' : Int) = .int .u32 (k : Int) := g2.symm.trans hek
   cases hek
   omega
theorem oraKeys_ok : OraOk Tryz.prog oraKeys := fun f args s r h w0 π args' w ha hf hr => by
 obtain ⟨hfe, hm⟩ := uM h
 have hfe := beq_eq hfe
 subst hfe
 split at hm
 ·rename_i g bx
  obtain ⟨hg, hm2⟩ := uM hm
  have hg := beq_eq hg
  subst hg
  obtain ⟨wr, cs, h1, h2⟩ := wW hm2
  split at h2
  ·rename_i i
   obtain ⟨o, h3, h4⟩ := uB h2
   cases o <;> first | (cases h4; done) | skip
   rename_i es c
   obtain ⟨ks, h5, h6⟩ := uB h4
   obtain ⟨h7, h8⟩ := uM h6
   obtain ⟨g1, g2⟩ := band h7
   obtain ⟨g3, g4⟩ := band g2
   rw [RepL] at ha
   obtain ⟨v, us, e1, e2, e3⟩ := ha
   rw [RepL] at e3
   subst e3
   rw [Rep] at e2
   obtain ⟨vs, us, rfl, e3, e4⟩ := e2
   have e3 : vs.toList = [] := List.eq_nil_of_length_eq_zero e3.length
   have e4' : ∃ v us', us.toList = v :: us' ∧ Rep π (.ptr bx 0) v ∧ RepL π [] us' := by rw [RepL] at e4; exact e4
   obtain ⟨v2, us2, e5, e6, e7⟩ := e4'
   rw [RepL] at e7
   subst e7
   rw [Rep] at e6
   obtain ⟨L, hL, rfl⟩ := e6
   have evs : vs = #[] := Array.toList_inj.1 e3
   have eus : us = #[.pointer (some ⟨L.b, L.o + 0, none⟩)] := Array.toList_inj.1 e5
   subst evs eus
   have ea : args' = #[.func (.func 255) #[] #[.pointer (some ⟨L.b, L.o + 0, none⟩)]] := Array.toList_inj.1 e1
   subst ea
   obtain ⟨ob1, m1, rcs, T1, fz1, rfl, m2, m3, m4, m5⟩ := hr.obj bx _ L h1 hL
   obtain ⟨mv, m6, m7⟩ := m5 0 _ rfl
   rw [Rep] at m7
   obtain ⟨M, hM, rfl⟩ := m7
   obtain ⟨ob2, m8, es', rfl, m9⟩ := hr.obj i _ M h3 hM
   obtain ⟨D, own, hasD⟩ := keys_own m8 m9 h5 (vQ g1) g3 g4
   have hgl : rcs[L.o]? = some (.map (some M.b)) := m6
   have hn : (12 : Nat) ≤ 12 := Nat.le_of_ble_eq_true rfl
   have hcell : w.cell? ⟨L.b, L.o + 0, none⟩ = some (.map (some M.b)) := by
    simp only [World.cell?, m1, Nat.add_zero]; simpa using hgl
   have hrise := dB g4
   have hpw : ((sortN ks).map (fun k : Nat => (k : Int))).Pairwise (· < ·) := List.pairwise_map.2 (hrise.imp fun h => by omega)
   refine .inr ⟨⟨_, Tryz.func206, by kernel_rfl, by kernel_rfl⟩, (sortedKeys_o sorts_us M.b _ D _ w own hasD hpw hn L.b (L.o + 0) (Array.getElem?_eq_some_iff.1 m1).1 hcell).mono fun e w' ⟨v, he, hrow, hnil, hbel⟩ => ?_⟩
   subst he
   have hrel : Rel w0 π s.h w' := ⟨fun i o L hi hL => let ⟨o', h1, h2⟩ := hr.obj i o L hi hL; ⟨o', (hbel.block _ (Array.getElem?_eq_some_iff.1 h1).1).trans h1, h2⟩, hr.own, hr.inj, fun b hb => (hbel.block b (Nat.lt_of_lt_of_le hb hr.size)).trans (hr.keep b hb), Nat.le_trans hr.size hbel.size, hbel.tape.trans hr.tape, hbel.os.trans hr.os, hbel.output.trans hr.output⟩
   have hlen : ((sortN ks).map (fun k : Nat => (k : Int))).length = ks.length := by rw [List.length_map, (xE ks).length_eq]
   cases ks with
   | nil =>
    cases (show some (AV.nils, s) = some r from h8)
    have hv : v = .slice none 0 0 := hnil.2 rfl
    exact ⟨π, ⟨.refl π, fun i _ h => ⟨h, rfl⟩, Nat.le_refl _, hf, hrel⟩, v, rfl, by show Rep π .nils v; rw [Rep]; exact hv⟩
   | cons k ks =>
    cases (show some (AV.sl s.c 0 1 (len (k :: ks)) none, (⟨s.h.put s.c (.cells true (mapL (fun k => .int .u32 (.ofNat k)) (sortN (k :: ks)))), Nat.succ s.c⟩ : St)) = some r from h8)
    rcases hrow.2 with ⟨_, hz⟩ | ⟨gb, cap, cur, rfl, hbase, hgb, r1, r2, r3, r4⟩
    ·rw [hlen] at hz; cases hz
    ·have hc := zV hf
     have hat : ObjAt π ⟨gb, 0, cap⟩ (.cells cur 34 (0, 0)) (.cells true (mapL (fun k => .int .u32 (.ofNat k)) (sortN (k :: ks)))) := by
      have hl2 : (sortN (k :: ks)).length ≤ cap := by rw [← List.length_map (f := fun k : Nat => (k : Int))]; exact r1
      refine ⟨cur, _, _, rfl, by simpa using r3, fun _ => rfl, by rw [yR, List.length_map]; simpa using hl2, fun j x hj => ?_⟩
      rw [yR, List.getElem?_map] at hj
      cases hq : (sortN (k :: ks))[j]? with
      | none => rw [hq] at hj; cases hj
      | some q =>
       rw [hq] at hj
       cases hj
       have h9 : (cur.toList.take (((sortN (k :: ks)).map (fun k : Nat => (k : Int))).length * 1))[j]? = some (.int .u32 (q : Int)) := by
        rw [r4, List.getElem?_map, List.getElem?_map, hq]; rfl
       rw [List.getElem?_take] at h9
       split at h9
       ·exact ⟨_, by rw [Nat.zero_add, ← Array.getElem?_toList]; exact h9, by rw [Rep]; rfl⟩
       ·cases h9
     have hname := hrel.name (L := ⟨gb, 0, cap⟩) (w' := w') hc hgb (fun _ _ _ => rfl) (Nat.le_refl _) rfl rfl rfl hat (Nat.le_trans hr.size hbase) fun j q N hj hN e => by
      have := hr.lt hj hN
      rw [e] at this
      exact absurd this (Nat.not_lt.2 hbase)
     refine ⟨_, Nx.new hf (h' := s.h) (fun _ _ => rfl) hname, _, rfl, ?_⟩
     show Rep _ (.sl s.c 0 1 (len (k :: ks)) none) _
     rw [Rep]
     refine ⟨⟨gb, 0, cap⟩, cap, 0, Pl.upd_self _ _ _, ?_, ?_, fun c' h => (by cases h), .inr rfl, by simp⟩
     ·rw [hlen, wJ]
     ·rw [wJ, ← hlen]; exact r1
  ·cases h2
 ·cases hm
end
end Ev
end Go.Proofs.YtjogffchdejabaaGreatDoor
