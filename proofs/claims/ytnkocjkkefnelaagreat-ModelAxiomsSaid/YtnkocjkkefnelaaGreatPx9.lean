/- Parts. -/
import Derived.Sort.WalkC4
import Derived.Sort.WalkD2
import Derived.Sort.Walk11
import Derived.Sort.Walk13
import Derived.Sort.AssemblyPlain
import Derived.Sort.WalkA14
import Derived.RangeFuncBox
import Derived.Test.YtnkocjkkefnelaaGreatPx3
import Derived.Test.YtnkocjkkefnelaaGreatPx4
import Derived.Test.YtnkocjkkefnelaaGreatPx8
set_option linter.unusedVariables false
set_option linter.unusedSimpArgs false
namespace Go.Proofs.YtnkocjkkefnelaaGreat
open Go.Sort Go.RowKit
set_option maxHeartbeats 12800000 in
set_option maxRecDepth 100000 in
theorem partition_u (blk off cap a b pivot : Nat) (d : Array Int) (w : World) (hH : Holds encU w blk off d) (hap : a ≤ pivot) (hpb : pivot < b) (hb : b ≤ d.size) (hsz : d.size < 4611686018427387904) :
  Calls Tryz.prog 171 #[.slice (some ⟨blk, off, none⟩) d.size cap, .int .i64 a, .int .i64 b, .int .i64 pivot] w fun e w' =>
   e = .returned (.tuple #[.int .i64 (Sort.partition Sort.ltInt d a b pivot).1, .bool (Sort.partition Sort.ltInt d a b pivot).2.1]) ∧ ∃ n, w' = (putRow encU w blk off (Sort.partition Sort.ltInt d a b pivot).2.2).drewN n := by
 have hla : a < d.size := by omega
 have hlp : pivot < d.size := by omega
 obtain ⟨G, hG⟩ : ∃ G : Nat → Int, ∀ j, G j = d[j]! := ⟨fun j => d[j]!, fun _ => rfl⟩
 have ca : w.cell? ⟨blk, off + a, none⟩ = some (.int .u32 (G a)) := by rw [hG]; exact (hH a hla).1
 have fa := (hH a hla).2
 have cp : w.cell? ⟨blk, off + pivot, none⟩ = some (.int .u32 (G pivot)) := by rw [hG]; exact (hH pivot hlp).1
 have fp := (hH pivot hlp).2
 obtain ⟨v', hy'⟩ := cell?_setCell_some (w := w) (p := ⟨blk, off + a, none⟩) (x := .int .u32 (G pivot)) (q := ⟨blk, off + pivot, none⟩) cp
 have hw : ((w.setCell ⟨blk, off + a, none⟩ (.int .u32 (G pivot))).setCell ⟨blk, off + pivot, none⟩ (.int .u32 (G a))).drew = (putRow encU w blk off (Sort.swp d a pivot)).drewN 1 := by
  have e := swap_worldC encU w blk off d 0 a pivot hla hlp
  rw [putRow_self _ w blk off d hH] at e
  rw [hG a, hG pivot]
  exact e
 have AH : Hid (Holds encU w blk off d) := hH
 have HW0 := Hid.mk' hw
 clear hG hH hw
 go_enter Tryz.func171, Tryz.ntmps171
 go_wp2
 go_region
 go_wp2
 clear ca fa cp fp hy' v'
 have hw := HW0.out
 clear HW0
 generalize ((w.setCell ⟨blk, off + a, none⟩ (.int .u32 (G pivot))).setCell ⟨blk, off + pivot, none⟩ (.int .u32 (G a))).drew = W1 at hw ⊢
 obtain ⟨dk, hdk⟩ : ∃ dk, dk = Sort.swp d a pivot := ⟨_, rfl⟩
 obtain ⟨n, hn⟩ : ∃ n : Nat, n = 1 := ⟨_, rfl⟩
 rw [← hdk, ← hn] at hw
 clear hn
 have hs : dk.size = d.size := by rw [hdk, size_swp]
 have e1 : ((a : Int) + 1) = ((a + 1 : Nat) : Int) := by omega
 have e2 : ((b : Int) - 1) = ((b - 1 : Nat) : Int) := by omega
 rw [e1, e2]
 clear e1 e2
 obtain ⟨i, hi⟩ : ∃ i, i = a + 1 := ⟨_, rfl⟩
 obtain ⟨j, hj⟩ : ∃ j, j = b - 1 := ⟨_, rfl⟩
 rw [← hi, ← hj]
 have hai : a < i := by omega
 have hij : i ≤ j + 1 := by omega
 have hjb : j < b := by omega
 have HI := Hid.mk' hi
 have HJ := Hid.mk' hj
 have HDK := Hid.mk' hdk
 clear hi hj hdk
 have hHk : Holds encU W1 blk off dk := by
  rw [hw]
  exact holds_putRow encU w blk off d dk AH.out hs
 obtain ⟨Gk, hG⟩ : ∃ Gk : Nat → Int, ∀ t, Gk t = dk[t]! := ⟨fun t => dk[t]!, fun _ => rfl⟩
 have hc : ∀ t, t < d.size → W1.cell? ⟨blk, off + t, none⟩ = some (.int .u32 (Gk t)) := fun t ht => by rw [hG]; exact (hHk t (by omega)).1
 have hf : ∀ t, t < d.size → W1.frozen? ⟨blk, off + t, none⟩ = false := fun t ht => (hHk t (by omega)).2
 have AG : Hid (∀ t, Gk t = dk[t]!) := hG
 have AW : Hid (W1 = (putRow encU w blk off dk).drewN n) := hw
 clear hG hw hHk
 go_loopw [10] (fun vi w1 => ∃ (i' n1 : Nat), vi = .int .i64 i' ∧ i ≤ i' ∧ i' ≤ j + 1 ∧ w1 = W1.drewN n1 ∧
   Hid (Sort.scanUp (fun x => Sort.ltInt x dk[a]!) dk j i' = Sort.scanUp (fun x => Sort.ltInt x dk[a]!) dk j i))
  (fun vi _ => j + 1 - (intOf vi).toNat)
 case atStart => exact ⟨i, 0, rfl, Nat.le_refl _, hij, rfl, rfl⟩
 case round =>
  obtain ⟨i', n1, rfl, hii, hij', hw1, hsc⟩ := hrel
  have hcw : ∀ t, t < d.size → wr.cell? ⟨blk, off + t, none⟩ = some (.int .u32 (Gk t)) := fun t ht => by rw [hw1]; exact hc t ht
  have HW1 : Hid (wr = W1.drewN n1) := hw1
  clear hw1
  by_cases hle : i' ≤ j
  ·go_wp2_with fail
   go_big_quiet (first | (go_at_call 169; refine Calls.quiet_of_same (wB _ _ _)))
   go_wp2
   ·
    have ht : Sort.ltInt (Gk i') (Gk a) = true := by assumption
    go_roundw
    case rel => exact ⟨i' + 1, n1 + nq, by go_num, by omega, by omega, by rw [HW1.out, World.drewN_drewN], (scanUp_go (fun x => Sort.ltInt x dk[a]!) dk j i' hle (by rw [← AG.out a, ← AG.out i']; exact ht)).symm.trans hsc.out⟩
    case measure => simp [intOf]; omega
   ·
    have ht : Sort.ltInt (Gk i') (Gk a) = false := by assumption
    have hi2 : Hid (i' = Sort.scanUp (fun x => Sort.ltInt x dk[a]!) dk j i) := (scanUp_end (fun x => Sort.ltInt x dk[a]!) dk j i' (Or.inr (by rw [← AG.out a, ← AG.out i']; exact ht))).symm.trans hsc.out
    clear ht
    have hw2 : wr.drewN nq = W1.drewN (n1 + nq) := by rw [HW1.out, World.drewN_drewN]
    clear hcw HW1 hsc
    go_loopw [11] (fun vj w2 => ∃ (j' n2 : Nat), vj = .int .i64 j' ∧ j' ≤ j ∧ i' ≤ j' + 1 ∧ w2 = W1.drewN n2 ∧
      Hid (Sort.scanDown (fun x => !Sort.ltInt x dk[a]!) dk i' j' = Sort.scanDown (fun x => !Sort.ltInt x dk[a]!) dk i' j))
     (fun vj _ => (intOf vj).toNat)
    case atStart => exact ⟨j, n1 + nq, rfl, Nat.le_refl _, hij', hw2, rfl⟩
    case round =>
     clear hw2
     obtain ⟨j', n2, rfl, hjj, hij2, hw2, hsd⟩ := hrel
     have hcw : ∀ t, t < d.size → wr.cell? ⟨blk, off + t, none⟩ = some (.int .u32 (Gk t)) := fun t ht => by rw [hw2]; exact hc t ht
     have HW2 : Hid (wr = W1.drewN n2) := hw2
     clear hw2
     by_cases hle2 : i' ≤ j'
     ·go_wp2_with fail
      go_big_quiet (first | (go_at_call 169; refine Calls.quiet_of_same (wB _ _ _)))
      go_wp2
      ·
       have ht : (!Sort.ltInt (Gk j') (Gk a)) = true := by assumption
       go_roundw
       case rel => exact ⟨j' - 1, n2 + nq, by go_num, by omega, by omega, by rw [HW2.out, World.drewN_drewN], (scanDown_go (fun x => !Sort.ltInt x dk[a]!) dk i' j' hle2 (by omega) (by rw [← AG.out a, ← AG.out j']; exact ht)).symm.trans hsd.out⟩
       case measure => simp [intOf]; omega
      ·
       have ht : (!Sort.ltInt (Gk j') (Gk a)) = false := by assumption
       have hj2 : Hid (j' = Sort.scanDown (fun x => !Sort.ltInt x dk[a]!) dk i' j) := (scanDown_end (fun x => !Sort.ltInt x dk[a]!) dk i' j' (Or.inr (by rw [← AG.out a, ← AG.out j']; exact ht))).symm.trans hsd.out
       clear hcw hsd ht
       have hw3 : wr.drewN nq = W1.drewN (n2 + nq) := by rw [HW2.out, World.drewN_drewN]
       generalize wr.drewN nq = W3 at hw3 ⊢
       have hc3 : ∀ t, t < d.size → W3.cell? ⟨blk, off + t, none⟩ = some (.int .u32 (Gk t)) := fun t ht => by rw [hw3]; exact hc t ht
       have hf3 : ∀ t, t < d.size → W3.frozen? ⟨blk, off + t, none⟩ = false := fun t ht => by rw [hw3]; exact hf t ht
       have HW3 : Hid (W3 = W1.drewN (n2 + nq)) := hw3
       clear hw3
       obtain ⟨v3, hy3⟩ := cell?_setCell_some (w := W3) (p := ⟨blk, off + i', none⟩) (x := .int .u32 (Gk j')) (q := ⟨blk, off + j', none⟩) (hc3 j' (by omega))
       have hlt3 := part_scans_lt Sort.ltInt a i j dk (by omega) hi2.out hj2.out hle2
       go_wp2
       go_region
       all_goals go_wp2
       obtain ⟨R, hR⟩ : ∃ R, R = Sort.partLoop Sort.ltInt a (i' + 1) (j' - 1) (Sort.swp dk i' j') := ⟨_, rfl⟩
       have HP : Hid (Sort.partition Sort.ltInt d a b pivot = (R.1, false, Sort.swp R.2 R.1 a)) := by rw [hR]; exact part_first_go Sort.ltInt d a b pivot HI.out HJ.out HDK.out hi2.out hj2.out (by omega)
       have hw0 : ((W3.setCell ⟨blk, off + i', none⟩ (.int .u32 (Gk j'))).setCell ⟨blk, off + j', none⟩ (.int .u32 (Gk i'))).drew = (putRow encU w blk off (Sort.swp dk i' j')).drewN (n + (n2 + nq) + 1) := by
        rw [HW3.out, AW.out, World.drewN_drewN, AG.out i', AG.out j']
        exact swap_worldC encU w blk off dk _ i' j' (by omega) (by omega)
       have HR : Hid (R = Sort.partLoop Sort.ltInt a (i' + 1) (j' - 1) (Sort.swp dk i' j')) := hR
       clear hR hc hf hc3 hf3 hy3 HW3 AW AG hi2 hj2
       go_loopw [10, 11] (fun vi vj wr => ∃ (i j n : Nat) (dk : Array Int), vi = .int .i64 i ∧ vj = .int .i64 j ∧ a < i ∧ i ≤ j + 1 ∧ j < b ∧ dk.size = d.size ∧ wr = (putRow encU w blk off dk).drewN n ∧
         Sort.partLoop Sort.ltInt a i j dk = R)
        (fun vi vj _ => (intOf vj).toNat + 1 - (intOf vi).toNat)
       case atStart => exact ⟨i' + 1, j' - 1, _, Sort.swp dk i' j', by go_num, by go_num, by omega, by omega, by omega, by rw [size_swp]; exact hs, hw0, HR.out.symm⟩
       case round =>
        clear hw0 HR
        obtain ⟨i, j, n, dk, rfl, rfl, hai, hij, hjb, hs, hw, heq⟩ := hrel
        rename World => W1
        have AE : Hid (Sort.partLoop Sort.ltInt a i j dk = R) := heq
        clear heq
        have hHk : Holds encU W1 blk off dk := by
         rw [hw]
         exact holds_putRow encU w blk off d dk AH.out hs
        obtain ⟨Gk, hG⟩ : ∃ Gk : Nat → Int, ∀ t, Gk t = dk[t]! := ⟨fun t => dk[t]!, fun _ => rfl⟩
        have hc : ∀ t, t < d.size → W1.cell? ⟨blk, off + t, none⟩ = some (.int .u32 (Gk t)) := fun t ht => by rw [hG]; exact (hHk t (by omega)).1
        have hf : ∀ t, t < d.size → W1.frozen? ⟨blk, off + t, none⟩ = false := fun t ht => (hHk t (by omega)).2
        have AG : Hid (∀ t, Gk t = dk[t]!) := hG
        have AW : Hid (W1 = (putRow encU w blk off dk).drewN n) := hw
        clear hG hw hHk
        go_wp2
        go_loopw [10] (fun vi w1 => ∃ (i' n1 : Nat), vi = .int .i64 i' ∧ i ≤ i' ∧ i' ≤ j + 1 ∧ w1 = W1.drewN n1 ∧
          Hid (Sort.scanUp (fun x => Sort.ltInt x dk[a]!) dk j i' = Sort.scanUp (fun x => Sort.ltInt x dk[a]!) dk j i))
         (fun vi _ => j + 1 - (intOf vi).toNat)
        case atStart => exact ⟨i, 0, rfl, Nat.le_refl _, hij, rfl, rfl⟩
        case round =>
         obtain ⟨i', n1, rfl, hii, hij', hw1, hsc⟩ := hrel
         have hcw : ∀ t, t < d.size → wr.cell? ⟨blk, off + t, none⟩ = some (.int .u32 (Gk t)) := fun t ht => by rw [hw1]; exact hc t ht
         have HW1 : Hid (wr = W1.drewN n1) := hw1
         clear hw1
         by_cases hle : i' ≤ j
         ·go_wp2_with fail
          go_big_quiet (first | (go_at_call 169; refine Calls.quiet_of_same (wB _ _ _)))
          go_wp2
          ·
           have ht : Sort.ltInt (Gk i') (Gk a) = true := by assumption
           go_roundw
           case rel => exact ⟨i' + 1, n1 + nq, by go_num, by omega, by omega, by rw [HW1.out, World.drewN_drewN], (scanUp_go (fun x => Sort.ltInt x dk[a]!) dk j i' hle (by rw [← AG.out a, ← AG.out i']; exact ht)).symm.trans hsc.out⟩
           case measure => simp [intOf]; omega
          ·
           have ht : Sort.ltInt (Gk i') (Gk a) = false := by assumption
           have hi2 : Hid (i' = Sort.scanUp (fun x => Sort.ltInt x dk[a]!) dk j i) := (scanUp_end (fun x => Sort.ltInt x dk[a]!) dk j i' (Or.inr (by rw [← AG.out a, ← AG.out i']; exact ht))).symm.trans hsc.out
           clear ht
           have hw2 : wr.drewN nq = W1.drewN (n1 + nq) := by rw [HW1.out, World.drewN_drewN]
           clear hcw HW1 hsc
           go_loopw [11] (fun vj w2 => ∃ (j' n2 : Nat), vj = .int .i64 j' ∧ j' ≤ j ∧ i' ≤ j' + 1 ∧ w2 = W1.drewN n2 ∧
             Hid (Sort.scanDown (fun x => !Sort.ltInt x dk[a]!) dk i' j' = Sort.scanDown (fun x => !Sort.ltInt x dk[a]!) dk i' j))
            (fun vj _ => (intOf vj).toNat)
           case atStart => exact ⟨j, n1 + nq, rfl, Nat.le_refl _, hij', hw2, rfl⟩
           case round =>
            clear hw2
            obtain ⟨j', n2, rfl, hjj, hij2, hw2, hsd⟩ := hrel
            have hcw : ∀ t, t < d.size → wr.cell? ⟨blk, off + t, none⟩ = some (.int .u32 (Gk t)) := fun t ht => by rw [hw2]; exact hc t ht
            have HW2 : Hid (wr = W1.drewN n2) := hw2
            clear hw2
            by_cases hle2 : i' ≤ j'
            ·go_wp2_with fail
             go_big_quiet (first | (go_at_call 169; refine Calls.quiet_of_same (wB _ _ _)))
             go_wp2
             ·
              have ht : (!Sort.ltInt (Gk j') (Gk a)) = true := by assumption
              go_roundw
              case rel => exact ⟨j' - 1, n2 + nq, by go_num, by omega, by omega, by rw [HW2.out, World.drewN_drewN], (scanDown_go (fun x => !Sort.ltInt x dk[a]!) dk i' j' hle2 (by omega) (by rw [← AG.out a, ← AG.out j']; exact ht)).symm.trans hsd.out⟩
              case measure => simp [intOf]; omega
             ·
              have ht : (!Sort.ltInt (Gk j') (Gk a)) = false := by assumption
              have hj2 : Hid (j' = Sort.scanDown (fun x => !Sort.ltInt x dk[a]!) dk i' j) := (scanDown_end (fun x => !Sort.ltInt x dk[a]!) dk i' j' (Or.inr (by rw [← AG.out a, ← AG.out j']; exact ht))).symm.trans hsd.out
              clear hcw hsd ht
              have hw3 : wr.drewN nq = W1.drewN (n2 + nq) := by rw [HW2.out, World.drewN_drewN]
              generalize wr.drewN nq = W3 at hw3 ⊢
              have hc3 : ∀ t, t < d.size → W3.cell? ⟨blk, off + t, none⟩ = some (.int .u32 (Gk t)) := fun t ht => by rw [hw3]; exact hc t ht
              have hf3 : ∀ t, t < d.size → W3.frozen? ⟨blk, off + t, none⟩ = false := fun t ht => by rw [hw3]; exact hf t ht
              have HW3 : Hid (W3 = W1.drewN (n2 + nq)) := hw3
              clear hw3
              obtain ⟨v3, hy3⟩ := cell?_setCell_some (w := W3) (p := ⟨blk, off + i', none⟩) (x := .int .u32 (Gk j')) (q := ⟨blk, off + j', none⟩) (hc3 j' (by omega))
              have hlt3 := part_scans_lt Sort.ltInt a i j dk (by omega) hi2.out hj2.out hle2
              go_wp2
              go_region
              all_goals go_wp2
              all_goals go_roundw
              case rel =>
               refine ⟨i' + 1, j' - 1, n + (n2 + nq) + 1, Sort.swp dk i' j', by go_num, by go_num, by omega, by omega, by omega, by rw [size_swp]; exact hs, ?_, ?_⟩
               ·rw [HW3.out, AW.out, World.drewN_drewN, AG.out i', AG.out j']
                exact swap_worldC encU w blk off dk _ i' j' (by omega) (by omega)
               ·exact (part_go Sort.ltInt a i j dk hi2.out hj2.out (by omega)).symm.trans AE.out
              case measure => simp [intOf]; omega
            ·go_wp2_with fail
             go_big_quiet (first | (go_at_call 169; refine Calls.quiet_of_same (wB _ _ _)))
             have hj2 : Hid (j' = Sort.scanDown (fun x => !Sort.ltInt x dk[a]!) dk i' j) := (scanDown_end (fun x => !Sort.ltInt x dk[a]!) dk i' j' (Or.inl hle2)).symm.trans hsd.out
             clear hcw hsd
             have hw3 : wr.drewN nq = W1.drewN (n2 + nq) := by rw [HW2.out, World.drewN_drewN]
             generalize wr.drewN nq = W3 at hw3 ⊢
             have hc3 : ∀ t, t < d.size → W3.cell? ⟨blk, off + t, none⟩ = some (.int .u32 (Gk t)) := fun t ht => by rw [hw3]; exact hc t ht
             have hf3 : ∀ t, t < d.size → W3.frozen? ⟨blk, off + t, none⟩ = false := fun t ht => by rw [hw3]; exact hf t ht
             have HW3 : Hid (W3 = W1.drewN (n2 + nq)) := hw3
             clear hw3
             obtain ⟨v3, hy3⟩ := cell?_setCell_some (w := W3) (p := ⟨blk, off + j', none⟩) (x := .int .u32 (Gk a)) (q := ⟨blk, off + a, none⟩) (hc3 a (by omega))
             have hlj : j' < d.size := by omega
             go_wp2
             go_region
             all_goals go_wp2
             all_goals go_ret2
             have e : Sort.partition Sort.ltInt d a b pivot = (j', false, Sort.swp dk j' a) := by
              have e0 := (part_break Sort.ltInt a i j dk hi2.out hj2.out (by omega)).symm.trans AE.out
              rw [HP.out, ← e0]
             refine ⟨?_, n + (n2 + nq) + 1, ?_⟩
             ·rw [e]; rfl
             ·rw [e, HW3.out, AW.out, World.drewN_drewN, AG.out a, AG.out j']
              exact swap_worldC encU w blk off dk _ j' a (by omega) (by omega)
         ·go_wp2_with fail
          go_big_quiet (first | (go_at_call 169; refine Calls.quiet_of_same (wB _ _ _)))
          go_wp2
          have hi2 : Hid (i' = Sort.scanUp (fun x => Sort.ltInt x dk[a]!) dk j i) := (scanUp_end (fun x => Sort.ltInt x dk[a]!) dk j i' (Or.inl hle)).symm.trans hsc.out
          have hw2 : wr.drewN nq = W1.drewN (n1 + nq) := by rw [HW1.out, World.drewN_drewN]
          clear hcw HW1 hsc
          go_loopw [11] (fun vj w2 => ∃ (j' n2 : Nat), vj = .int .i64 j' ∧ j' ≤ j ∧ i' ≤ j' + 1 ∧ w2 = W1.drewN n2 ∧
            Hid (Sort.scanDown (fun x => !Sort.ltInt x dk[a]!) dk i' j' = Sort.scanDown (fun x => !Sort.ltInt x dk[a]!) dk i' j))
           (fun vj _ => (intOf vj).toNat)
          case atStart => exact ⟨j, n1 + nq, rfl, Nat.le_refl _, hij', hw2, rfl⟩
          case round =>
           clear hw2
           obtain ⟨j', n2, rfl, hjj, hij2, hw2, hsd⟩ := hrel
           have hcw : ∀ t, t < d.size → wr.cell? ⟨blk, off + t, none⟩ = some (.int .u32 (Gk t)) := fun t ht => by rw [hw2]; exact hc t ht
           have HW2 : Hid (wr = W1.drewN n2) := hw2
           clear hw2
           by_cases hle2 : i' ≤ j'
           ·exfalso; omega
           ·go_wp2_with fail
            go_big_quiet (first | (go_at_call 169; refine Calls.quiet_of_same (wB _ _ _)))
            have hj2 : Hid (j' = Sort.scanDown (fun x => !Sort.ltInt x dk[a]!) dk i' j) := (scanDown_end (fun x => !Sort.ltInt x dk[a]!) dk i' j' (Or.inl hle2)).symm.trans hsd.out
            clear hcw hsd
            have hw3 : wr.drewN nq = W1.drewN (n2 + nq) := by rw [HW2.out, World.drewN_drewN]
            generalize wr.drewN nq = W3 at hw3 ⊢
            have hc3 : ∀ t, t < d.size → W3.cell? ⟨blk, off + t, none⟩ = some (.int .u32 (Gk t)) := fun t ht => by rw [hw3]; exact hc t ht
            have hf3 : ∀ t, t < d.size → W3.frozen? ⟨blk, off + t, none⟩ = false := fun t ht => by rw [hw3]; exact hf t ht
            have HW3 : Hid (W3 = W1.drewN (n2 + nq)) := hw3
            clear hw3
            obtain ⟨v3, hy3⟩ := cell?_setCell_some (w := W3) (p := ⟨blk, off + j', none⟩) (x := .int .u32 (Gk a)) (q := ⟨blk, off + a, none⟩) (hc3 a (by omega))
            have hlj : j' < d.size := by omega
            go_wp2
            go_region
            all_goals go_wp2
            all_goals go_ret2
            have e : Sort.partition Sort.ltInt d a b pivot = (j', false, Sort.swp dk j' a) := by
             have e0 := (part_break Sort.ltInt a i j dk hi2.out hj2.out (by omega)).symm.trans AE.out
             rw [HP.out, ← e0]
            refine ⟨?_, n + (n2 + nq) + 1, ?_⟩
            ·rw [e]; rfl
            ·rw [e, HW3.out, AW.out, World.drewN_drewN, AG.out a, AG.out j']
             exact swap_worldC encU w blk off dk _ j' a (by omega) (by omega)
     ·go_wp2_with fail
      go_big_quiet (first | (go_at_call 169; refine Calls.quiet_of_same (wB _ _ _)))
      have hj2 : Hid (j' = Sort.scanDown (fun x => !Sort.ltInt x dk[a]!) dk i' j) := (scanDown_end (fun x => !Sort.ltInt x dk[a]!) dk i' j' (Or.inl hle2)).symm.trans hsd.out
      clear hcw hsd
      have hw3 : wr.drewN nq = W1.drewN (n2 + nq) := by rw [HW2.out, World.drewN_drewN]
      generalize wr.drewN nq = W3 at hw3 ⊢
      have hc3 : ∀ t, t < d.size → W3.cell? ⟨blk, off + t, none⟩ = some (.int .u32 (Gk t)) := fun t ht => by rw [hw3]; exact hc t ht
      have hf3 : ∀ t, t < d.size → W3.frozen? ⟨blk, off + t, none⟩ = false := fun t ht => by rw [hw3]; exact hf t ht
      have HW3 : Hid (W3 = W1.drewN (n2 + nq)) := hw3
      clear hw3
      obtain ⟨v3, hy3⟩ := cell?_setCell_some (w := W3) (p := ⟨blk, off + j', none⟩) (x := .int .u32 (Gk a)) (q := ⟨blk, off + a, none⟩) (hc3 a (by omega))
      have hlj : j' < d.size := by omega
      go_wp2
      go_region
      all_goals go_wp2
      all_goals go_ret2
      have e : Sort.partition Sort.ltInt d a b pivot = (j', true, Sort.swp dk j' a) := part_first_break Sort.ltInt d a b pivot HI.out HJ.out HDK.out hi2.out hj2.out (by omega)
      refine ⟨?_, n + (n2 + nq) + 1, ?_⟩
      ·rw [e]; rfl
      ·rw [e, HW3.out, AW.out, World.drewN_drewN, AG.out a, AG.out j']
       exact swap_worldC encU w blk off dk _ j' a (by omega) (by omega)
  ·go_wp2_with fail
   go_big_quiet (first | (go_at_call 169; refine Calls.quiet_of_same (wB _ _ _)))
   go_wp2
   have hi2 : Hid (i' = Sort.scanUp (fun x => Sort.ltInt x dk[a]!) dk j i) := (scanUp_end (fun x => Sort.ltInt x dk[a]!) dk j i' (Or.inl hle)).symm.trans hsc.out
   have hw2 : wr.drewN nq = W1.drewN (n1 + nq) := by rw [HW1.out, World.drewN_drewN]
   clear hcw HW1 hsc
   go_loopw [11] (fun vj w2 => ∃ (j' n2 : Nat), vj = .int .i64 j' ∧ j' ≤ j ∧ i' ≤ j' + 1 ∧ w2 = W1.drewN n2 ∧
     Hid (Sort.scanDown (fun x => !Sort.ltInt x dk[a]!) dk i' j' = Sort.scanDown (fun x => !Sort.ltInt x dk[a]!) dk i' j))
    (fun vj _ => (intOf vj).toNat)
   case atStart => exact ⟨j, n1 + nq, rfl, Nat.le_refl _, hij', hw2, rfl⟩
   case round =>
    clear hw2
    obtain ⟨j', n2, rfl, hjj, hij2, hw2, hsd⟩ := hrel
    have hcw : ∀ t, t < d.size → wr.cell? ⟨blk, off + t, none⟩ = some (.int .u32 (Gk t)) := fun t ht => by rw [hw2]; exact hc t ht
    have HW2 : Hid (wr = W1.drewN n2) := hw2
    clear hw2
    by_cases hle2 : i' ≤ j'
    ·exfalso; omega
    ·go_wp2_with fail
     go_big_quiet (first | (go_at_call 169; refine Calls.quiet_of_same (wB _ _ _)))
     have hj2 : Hid (j' = Sort.scanDown (fun x => !Sort.ltInt x dk[a]!) dk i' j) := (scanDown_end (fun x => !Sort.ltInt x dk[a]!) dk i' j' (Or.inl hle2)).symm.trans hsd.out
     clear hcw hsd
     have hw3 : wr.drewN nq = W1.drewN (n2 + nq) := by rw [HW2.out, World.drewN_drewN]
     generalize wr.drewN nq = W3 at hw3 ⊢
     have hc3 : ∀ t, t < d.size → W3.cell? ⟨blk, off + t, none⟩ = some (.int .u32 (Gk t)) := fun t ht => by rw [hw3]; exact hc t ht
     have hf3 : ∀ t, t < d.size → W3.frozen? ⟨blk, off + t, none⟩ = false := fun t ht => by rw [hw3]; exact hf t ht
     have HW3 : Hid (W3 = W1.drewN (n2 + nq)) := hw3
     clear hw3
     obtain ⟨v3, hy3⟩ := cell?_setCell_some (w := W3) (p := ⟨blk, off + j', none⟩) (x := .int .u32 (Gk a)) (q := ⟨blk, off + a, none⟩) (hc3 a (by omega))
     have hlj : j' < d.size := by omega
     go_wp2
     go_region
     all_goals go_wp2
     all_goals go_ret2
     have e : Sort.partition Sort.ltInt d a b pivot = (j', true, Sort.swp dk j' a) := part_first_break Sort.ltInt d a b pivot HI.out HJ.out HDK.out hi2.out hj2.out (by omega)
     refine ⟨?_, n + (n2 + nq) + 1, ?_⟩
     ·rw [e]; rfl
     ·rw [e, HW3.out, AW.out, World.drewN_drewN, AG.out a, AG.out j']
      exact swap_worldC encU w blk off dk _ j' a (by omega) (by omega)
theorem partitionOrdered_u (blk off cap a b pivot : Nat) (d : Array Int) (w : World) (hH : Holds encU w blk off d) (hap : a ≤ pivot) (hpb : pivot < b) (hb : b ≤ d.size) (hsz : d.size < 4611686018427387904) :
  Calls Tryz.prog 171 #[.slice (some ⟨blk, off, none⟩) d.size cap, .int .i64 a, .int .i64 b, .int .i64 pivot] w fun e w' =>
   e = .returned (.tuple #[.int .i64 (Sort.partition Sort.ltInt d a b pivot).1, .bool (Sort.partition Sort.ltInt d a b pivot).2.1]) ∧ ∃ n, w' = putRow encU (Sort.ahead w n) blk off (Sort.partition Sort.ltInt d a b pivot).2.2 :=
 (partition_u blk off cap a b pivot d w hH hap hpb hb hsz).mono fun _ _ ⟨he, n, hw⟩ => ⟨he, n, hw⟩
open Go.Sort Go.RowKit
theorem xT {w : World} {blk off sb so n t : Nat} {d : Array Int} (h : Holds encU w blk off d) (hne : sb ≠ blk) : Holds encU (putRow (Value.int .i64) (Sort.ahead w n) sb so (one t)) blk off d := fun j hj =>
 ⟨by rw [cell?_putRow_other _ _ _ _ _ _ (Or.inl (Ne.symm hne))]; exact (h j hj).1, by rw [frozen?_putRow]; exact (h j hj).2⟩
set_option maxHeartbeats 1000000 in
theorem iK (d : Array Int) (len : Nat) (hlen : d.size = len) (blk off cap a b sb so s : Nat) (w : World) (hH : Holds encU w blk off d) (ha : a < d.size) (hb : b < d.size)
    (hS : Holds (Value.int .i64) w sb so (one s)) (hs : s < 2 ^ 62) :
    Calls Tryz.prog 183 #[.slice (some ⟨blk, off, none⟩) len cap, .int .i64 a, .int .i64 b, .pointer (some ⟨sb, so, none⟩)] w fun e w' =>
      e = .returned (.tuple #[.int .i64 (order2 ltInt d a b s).1, .int .i64 (order2 ltInt d a b s).2.1]) ∧ ∃ n, w' = putRow (Value.int .i64) (Sort.ahead w n) sb so (one (order2 ltInt d a b s).2.2) := by
  subst hlen
  replace hs : s < 4611686018427387904 := by omega
  have ca := (hH a ha).1
  have cb := (hH b hb).1
  obtain ⟨cs, fs⟩ := one_cell hS
  have ea : d[a]! = d[a] := getElem!_pos d a ha
  have eb : d[b]! = d[b] := getElem!_pos d b hb
  go_enter Tryz.func183, Tryz.ntmps183
  go_wp2
  go_region_with (go_at_call 169; refine (wB _ _ _).mono ?_; rintro e w' ⟨rfl, rfl⟩)
  all_goals (try go_wp2)
  all_goals first
    | (have hlt : ltInt d[b] d[a] = true := by assumption
       have e2 : order2 ltInt d a b s = (b, a, s + 1) := by simp [order2, ea, eb, hlt]
       go_ret2
       rw [e2]
       refine ⟨rfl, 1, ?_⟩
       rw [putRow_ahead, ← one_set hS (s + 1)]
       simp [drew_eq_ahead])
    | (have hlt : ltInt d[b] d[a] = false := by assumption
       have e2 : order2 ltInt d a b s = (a, b, s) := by simp [order2, ea, eb, hlt]
       go_ret2
       rw [e2]
       refine ⟨rfl, 1, ?_⟩
       rw [putRow_ahead, putRow_self _ _ _ _ _ hS]
       rfl)
set_option maxHeartbeats 1000000 in
set_option maxRecDepth 100000 in
theorem nO (d : Array Int) (len : Nat) (hlen : d.size = len) (blk off cap a b c sb so s : Nat) (w : World) (hH : Holds encU w blk off d) (ha : a < d.size) (hb : b < d.size) (hc : c < d.size) (hne : sb ≠ blk)
  (hS : Holds (Value.int .i64) w sb so (one s)) (hs : s + 3 < 2 ^ 62) :
  Calls Tryz.prog 179 #[.slice (some ⟨blk, off, none⟩) len cap, .int .i64 a, .int .i64 b, .int .i64 c, .pointer (some ⟨sb, so, none⟩)] w fun e w' =>
   e = .returned (.int .i64 (median ltInt d a b c s).1) ∧ ∃ n, w' = putRow (Value.int .i64) (Sort.ahead w n) sb so (one (median ltInt d a b c s).2) := by
 subst hlen
 have l1 := order2_lt d s ha hb
 have s1 := order2_swaps d a b s
 have l2 := order2_lt d (order2 ltInt d a b s).2.2 l1.2 hc
 have s2 := order2_swaps d (order2 ltInt d a b s).2.1 c (order2 ltInt d a b s).2.2
 go_enter Tryz.func179, Tryz.ntmps179
 go_wp2_with (go_at_call_of 183 (Value.int .i64 (b : Int)); refine (iK d _ rfl blk off cap a b sb so s w hH ha hb hS (by omega)).mono ?_; rintro e w' ⟨rfl, n1, rfl⟩)
 go_wp2_with (go_at_call_of 183 (Value.int .i64 (c : Int)); refine (iK d _ rfl blk off cap (order2 ltInt d a b s).2.1 c sb so (order2 ltInt d a b s).2.2 _ (xT hH hne) l1.2 hc (holds_one hS) (by omega)).mono ?_; rintro e w' ⟨rfl, n2, rfl⟩)
 go_wp2_with (go_at_call_of 183 (Value.int .i64 ((order2 ltInt d a b s).1 : Int)); refine (iK d _ rfl blk off cap (order2 ltInt d a b s).1 (order2 ltInt d (order2 ltInt d a b s).2.1 c (order2 ltInt d a b s).2.2).1 sb so (order2 ltInt d (order2 ltInt d a b s).2.1 c (order2 ltInt d a b s).2.2).2.2 _
  (xT (xT hH hne) hne) l1.1 l2.1 (holds_one (holds_one hS)) (by omega)).mono ?_; rintro e w' ⟨rfl, n3, rfl⟩)
 go_ret
 refine ⟨rfl, n1 + (n2 + n3), ?_⟩
 rw [one_one, one_one]
 rfl
set_option maxHeartbeats 1000000 in
set_option maxRecDepth 100000 in
theorem medianAdjacent_u (d : Array Int) (len : Nat) (hlen : d.size = len) (blk off cap a sb so s : Nat) (w : World) (hH : Holds encU w blk off d) (ha0 : 1 ≤ a) (ha : a + 1 < d.size) (hsz : d.size < 2 ^ 62) (hne : sb ≠ blk)
  (hS : Holds (Value.int .i64) w sb so (one s)) (hs : s + 3 < 2 ^ 62) :
  Calls Tryz.prog 178 #[.slice (some ⟨blk, off, none⟩) len cap, .int .i64 a, .pointer (some ⟨sb, so, none⟩)] w fun e w' =>
   e = .returned (.int .i64 (medianAdjacent ltInt d a s).1) ∧ ∃ n, w' = putRow (Value.int .i64) (Sort.ahead w n) sb so (one (medianAdjacent ltInt d a s).2) := by
 subst hlen
 replace hsz : d.size < 4611686018427387904 := by omega
 go_enter Tryz.func178, Tryz.ntmps178
 go_wp2_with (go_at_call 179; rw [show ((a : Int) - 1) = ((a - 1 : Nat) : Int) by omega, show ((a : Int) + 1) = ((a + 1 : Nat) : Int) by omega]; refine (nO d _ rfl blk off cap (a - 1) a (a + 1) sb so s w hH (by omega) (by omega) ha hne hS hs).mono ?_; rintro e w' ⟨rfl, n1, rfl⟩)
 go_ret
 exact ⟨rfl, n1, rfl⟩
theorem pivot_world_u (blk off cap : Nat) (d : Array Int) (w : World) (hH : Holds encU w blk off d) (hblk : blk < w.heap.size) (hsz : d.size < 4611686018427387904) :
  ∃ Wc : Nat → Nat → World,
   w.alloc (.cells #[.int .i64 0] 3) = Wc 0 0 ∧
   (∀ N S : Nat, (Wc N S).cell? ⟨w.heap.size, 0, none⟩ = some (.int .i64 (S : Int))) ∧
   (∀ N S : Nat, ∃ os, Wc N S = grow (Sort.ahead w N) os) ∧
   (∀ x s N : Nat, 1 ≤ x → x + 1 < d.size → s + 3 < 4611686018427387904 → Calls Tryz.prog 178 #[.slice (some ⟨blk, off, none⟩) d.size cap, .int .i64 (x : Int), .pointer (some ⟨w.heap.size, 0, none⟩)] (Wc N s) fun e w' =>
    e = .returned (.int .i64 ((medianAdjacent ltInt d x s).1 : Int)) ∧ ∃ N', w' = Wc N' (medianAdjacent ltInt d x s).2) ∧
   (∀ x y z s N : Nat, x < d.size → y < d.size → z < d.size → s + 3 < 4611686018427387904 → Calls Tryz.prog 179 #[.slice (some ⟨blk, off, none⟩) d.size cap, .int .i64 (x : Int), .int .i64 (y : Int), .int .i64 (z : Int), .pointer (some ⟨w.heap.size, 0, none⟩)] (Wc N s) fun e w' =>
    e = .returned (.int .i64 ((median ltInt d x y z s).1 : Int)) ∧ ∃ N', w' = Wc N' (median ltInt d x y z s).2) := by
 have hne : w.heap.size ≠ blk := by omega
 have hH0 : Holds encU (w.alloc (.cells #[.int .i64 0] 3)) blk off d := by rw [alloc_eq_grow]; exact holds_grow _ _ _ _ _ _ hblk hH
 have hS0 : Holds (Value.int .i64) (w.alloc (.cells #[.int .i64 0] 3)) w.heap.size 0 (one 0) := fun j hj => by
  obtain rfl : j = 0 := by simpa using hj
  simp
 refine ⟨fun N S => putRow (Value.int .i64) (Sort.ahead (w.alloc (.cells #[.int .i64 0] 3)) N) w.heap.size 0 (one S), (putRow_self _ _ _ _ _ hS0).symm, fun N S => (one_cell (holds_one (n := N) (t := S) hS0)).1, fun N S => counter_grow w N S, ?_, ?_⟩
 ·intro x s N h1 h2 hs
  refine (medianAdjacent_u d _ rfl blk off cap x w.heap.size 0 s _ (xT hH0 hne) h1 h2 (by omega) hne (holds_one hS0) (by omega)).mono ?_
  rintro e w' ⟨he, n, hw⟩
  exact ⟨he, N + n, by rw [hw, one_one]⟩
 ·intro x y z s N h1 h2 h3 hs
  refine (nO d _ rfl blk off cap x y z w.heap.size 0 s _ (xT hH0 hne) h1 h2 h3 hne (holds_one hS0) (by omega)).mono ?_
  rintro e w' ⟨he, n, hw⟩
  exact ⟨he, N + n, by rw [hw, one_one]⟩
set_option maxRecDepth 100000 in
theorem choosePivot_u (blk off cap a b : Nat) (d : Array Int) (w : World) (hH : Holds encU w blk off d) (hblk : blk < w.heap.size) (hab : a < b) (hb : b ≤ d.size) (hsz : d.size < 4611686018427387904) :
    Calls Tryz.prog 166 #[.slice (some ⟨blk, off, none⟩) d.size cap, .int .i64 a, .int .i64 b] w fun e w' =>
      e = .returned (.tuple #[.int .i64 (choosePivot ltInt d a b).1, .int .i64 (hintCode (choosePivot ltInt d a b).2)]) ∧ ∃ n os, w' = grow (Sort.ahead w n) os := by
  obtain ⟨Wc, hW0, cS, hG, MA, MD⟩ := pivot_world_u blk off cap d w hH hblk hsz
  clear hH
  rw [choosePivot_eq]
  obtain ⟨I, hI⟩ : ∃ I : Nat, I = a + (b - a) / 4 * 1 := ⟨_, rfl⟩
  obtain ⟨J, hJ⟩ : ∃ J : Nat, J = a + (b - a) / 4 * 2 := ⟨_, rfl⟩
  obtain ⟨K, hK⟩ : ∃ K : Nat, K = a + (b - a) / 4 * 3 := ⟨_, rfl⟩
  have eI : ((a : Int) + ((b : Int) - (a : Int)) / 4) = (I : Int) := by omega
  have eJ : ((a : Int) + ((b : Int) - (a : Int)) / 4 * 2) = (J : Int) := by omega
  have eK : ((a : Int) + ((b : Int) - (a : Int)) / 4 * 3) = (K : Int) := by omega
  by_cases h8 : b - a ≥ 8
  · by_cases h50 : b - a ≥ 50
    ·
      obtain ⟨i1, s1, h1⟩ : ∃ i1 s1, medianAdjacent ltInt d I 0 = (i1, s1) := ⟨_, _, rfl⟩
      obtain ⟨j1, s2, h2⟩ : ∃ j1 s2, medianAdjacent ltInt d J s1 = (j1, s2) := ⟨_, _, rfl⟩
      obtain ⟨k1, s3, h3⟩ : ∃ k1 s3, medianAdjacent ltInt d K s2 = (k1, s3) := ⟨_, _, rfl⟩
      obtain ⟨p, s, h4⟩ : ∃ p s, median ltInt d i1 j1 k1 s3 = (p, s) := ⟨_, _, rfl⟩
      have hraw : rawPivot ltInt d a b = (p, s) := by simp only [rawPivot, if_pos h8, if_pos h50, ← hI, ← hJ, ← hK, h1, h2, h3, h4]
      have m1 := medianAdjacent_mem ltInt d I 0; rw [h1] at m1
      have m2 := medianAdjacent_mem ltInt d J s1; rw [h2] at m2
      have m3 := medianAdjacent_mem ltInt d K s2; rw [h3] at m3
      have n1 := medianAdjacent_count ltInt d I 0; rw [h1] at n1
      have n2 := medianAdjacent_count ltInt d J s1; rw [h2] at n2
      have n3 := medianAdjacent_count ltInt d K s2; rw [h3] at n3
      simp only [] at m1 m2 m3 n1 n2 n3
      have c1 : Calls Tryz.prog 178 #[.slice (some ⟨blk, off, none⟩) d.size cap, .int .i64 (I : Int), .pointer (some ⟨w.heap.size, 0, none⟩)] (Wc 0 0) fun e w' => e = .returned (.int .i64 (i1 : Int)) ∧ ∃ N', w' = Wc N' s1 := by
        have h := MA I 0 0 (by omega) (by omega) (by omega); rw [h1] at h; exact h
      have c2 : ∀ N, Calls Tryz.prog 178 #[.slice (some ⟨blk, off, none⟩) d.size cap, .int .i64 (J : Int), .pointer (some ⟨w.heap.size, 0, none⟩)] (Wc N s1) fun e w' => e = .returned (.int .i64 (j1 : Int)) ∧ ∃ N', w' = Wc N' s2 := fun N => by
        have h := MA J s1 N (by omega) (by omega) (by omega); rw [h2] at h; exact h
      have c3 : ∀ N, Calls Tryz.prog 178 #[.slice (some ⟨blk, off, none⟩) d.size cap, .int .i64 (K : Int), .pointer (some ⟨w.heap.size, 0, none⟩)] (Wc N s2) fun e w' => e = .returned (.int .i64 (k1 : Int)) ∧ ∃ N', w' = Wc N' s3 := fun N => by
        have h := MA K s2 N (by omega) (by omega) (by omega); rw [h3] at h; exact h
      have c4 : ∀ N, Calls Tryz.prog 179 #[.slice (some ⟨blk, off, none⟩) d.size cap, .int .i64 (i1 : Int), .int .i64 (j1 : Int), .int .i64 (k1 : Int), .pointer (some ⟨w.heap.size, 0, none⟩)] (Wc N s3) fun e w' => e = .returned (.int .i64 (p : Int)) ∧ ∃ N', w' = Wc N' s := fun N => by
        have h := MD i1 j1 k1 s3 N (by omega) (by omega) (by omega) (by omega); rw [h4] at h; exact h
      rw [hraw]
      obtain ⟨Hc, hHc⟩ : ∃ Hc : Int, Hc = hintCode (hintOf s) := ⟨_, rfl⟩
      have hh0 : s = 0 → Hc = 1 := fun h => by rw [hHc, h]; rfl
      have hh12 : s = 12 → Hc = 2 := fun h => by rw [hHc, h]; rfl
      have hhx : s ≠ 0 → s ≠ 12 → Hc = 0 := fun h1 h2 => by rw [hHc]; unfold hintOf; rw [if_neg h1, if_neg h2]; rfl
      show Calls Tryz.prog 166 _ w fun e w' => e = .returned (.tuple #[.int .i64 (p : Int), .int .i64 (hintCode (hintOf s))]) ∧ ∃ n os, w' = grow (Sort.ahead w n) os
      rw [← hHc]
      clear hHc hraw
      clear h1 h2 h3 h4 MA MD hI hJ hK m1 m2 m3
      go_enter Tryz.func166, Tryz.ntmps166
      go_wp2_with (first
        | (go_at_call_has 178 (Value.int .i64 (I : Int)); refine c1.mono ?_; rintro e w' ⟨rfl, N1, rfl⟩)
        | (go_at_call_has 178 (Value.int .i64 (J : Int)); refine (c2 _).mono ?_; rintro e w' ⟨rfl, N2, rfl⟩)
        | (go_at_call_has 178 (Value.int .i64 (K : Int)); refine (c3 _).mono ?_; rintro e w' ⟨rfl, N3, rfl⟩)
        | (go_at_call 179; refine (c4 _).mono ?_; rintro e w' ⟨rfl, N4, rfl⟩))
      all_goals
        go_ret2
        refine ⟨?_, _, hG _ _⟩
        first
          | (have e0 : (s : Int) = 0 := of_beq_int (by assumption)
             rw [hh0 (by omega)]; rfl)
          | (have e1 : (s : Int) = 12 := of_beq_int (by assumption)
             rw [hh12 (by omega)]; rfl)
          | (have e0 : (s : Int) ≠ 0 := of_bne_int (by assumption)
             have e1 : (s : Int) ≠ 12 := of_bne_int (by assumption)
             rw [hhx (by omega) (by omega)]; rfl)
          | (rw [hh0 (by omega)]; rfl)
    ·
      obtain ⟨p, s, h4⟩ : ∃ p s, median ltInt d I J K 0 = (p, s) := ⟨_, _, rfl⟩
      have hraw : rawPivot ltInt d a b = (p, s) := by simp only [rawPivot, if_pos h8, if_neg h50, ← hI, ← hJ, ← hK, h4]
      have c4 : Calls Tryz.prog 179 #[.slice (some ⟨blk, off, none⟩) d.size cap, .int .i64 (I : Int), .int .i64 (J : Int), .int .i64 (K : Int), .pointer (some ⟨w.heap.size, 0, none⟩)] (Wc 0 0) fun e w' => e = .returned (.int .i64 (p : Int)) ∧ ∃ N', w' = Wc N' s := by
        have h := MD I J K 0 0 (by omega) (by omega) (by omega) (by omega); rw [h4] at h; exact h
      rw [hraw]
      obtain ⟨Hc, hHc⟩ : ∃ Hc : Int, Hc = hintCode (hintOf s) := ⟨_, rfl⟩
      have hh0 : s = 0 → Hc = 1 := fun h => by rw [hHc, h]; rfl
      have hh12 : s = 12 → Hc = 2 := fun h => by rw [hHc, h]; rfl
      have hhx : s ≠ 0 → s ≠ 12 → Hc = 0 := fun h1 h2 => by rw [hHc]; unfold hintOf; rw [if_neg h1, if_neg h2]; rfl
      show Calls Tryz.prog 166 _ w fun e w' => e = .returned (.tuple #[.int .i64 (p : Int), .int .i64 (hintCode (hintOf s))]) ∧ ∃ n os, w' = grow (Sort.ahead w n) os
      rw [← hHc]
      clear hHc hraw
      clear h4 MA MD hI hJ hK
      go_enter Tryz.func166, Tryz.ntmps166
      go_wp2_with (first | (go_at_call 179; refine c4.mono ?_; rintro e w' ⟨rfl, N4, rfl⟩))
      all_goals
        go_ret2
        refine ⟨?_, _, hG _ _⟩
        first
          | (have e0 : (s : Int) = 0 := of_beq_int (by assumption)
             rw [hh0 (by omega)]; rfl)
          | (have e1 : (s : Int) = 12 := of_beq_int (by assumption)
             rw [hh12 (by omega)]; rfl)
          | (have e0 : (s : Int) ≠ 0 := of_bne_int (by assumption)
             have e1 : (s : Int) ≠ 12 := of_bne_int (by assumption)
             rw [hhx (by omega) (by omega)]; rfl)
          | (rw [hh0 (by omega)]; rfl)
  ·
    obtain ⟨p, hp⟩ : ∃ p : Nat, p = J := ⟨_, rfl⟩
    obtain ⟨s, hs⟩ : ∃ s : Nat, s = 0 := ⟨_, rfl⟩
    have hraw : rawPivot ltInt d a b = (p, s) := by simp only [rawPivot, if_neg h8, ← hJ, hp, hs]
    rw [hraw]
    obtain ⟨Hc, hHc⟩ : ∃ Hc : Int, Hc = hintCode (hintOf s) := ⟨_, rfl⟩
    have hh0 : s = 0 → Hc = 1 := fun h => by rw [hHc, h]; rfl
    have hh12 : s = 12 → Hc = 2 := fun h => by rw [hHc, h]; rfl
    have hhx : s ≠ 0 → s ≠ 12 → Hc = 0 := fun h1 h2 => by rw [hHc]; unfold hintOf; rw [if_neg h1, if_neg h2]; rfl
    show Calls Tryz.prog 166 _ w fun e w' => e = .returned (.tuple #[.int .i64 (p : Int), .int .i64 (hintCode (hintOf s))]) ∧ ∃ n os, w' = grow (Sort.ahead w n) os
    rw [← hHc]
    clear hHc hraw
    subst hp
    clear MA MD hI hJ hK
    have hW0' : w.alloc (.cells #[.int .i64 0] 3) = Wc 0 s := by rw [hs]; exact hW0
    clear hW0
    go_enter Tryz.func166, Tryz.ntmps166
    go_wp2
    all_goals
      go_ret2
      refine ⟨?_, _, hG _ _⟩
      first
        | (have e0 : (s : Int) = 0 := of_beq_int (by assumption)
           rw [hh0 (by omega)]; rfl)
        | (have e1 : (s : Int) = 12 := of_beq_int (by assumption)
           rw [hh12 (by omega)]; rfl)
        | (have e0 : (s : Int) ≠ 0 := of_bne_int (by assumption)
           have e1 : (s : Int) ≠ 12 := of_bne_int (by assumption)
           rw [hhx (by omega) (by omega)]; rfl)
        | (rw [hh0 (by omega)]; rfl)
open Go.Sort Go.RowKit
structure Callees13 : Prop where
 ins : ∀ (blk off cap a b : Nat) (d : Array Int) (w : World), Holds encU w blk off d → a ≤ b → b ≤ d.size → d.size < 4611686018427387904 →
  Calls Tryz.prog 163 #[.slice (some ⟨blk, off, none⟩) d.size cap, .int .i64 a, .int .i64 b] w fun e w' => e = .returned (.tuple #[]) ∧ ∃ n, w' = putRow encU (Sort.ahead w n) blk off (insertionSort ltInt d a b)
 brk : ∀ (blk off cap a b : Nat) (d : Array Int) (w : World), Holds encU w blk off d → blk < w.heap.size → a ≤ b → b ≤ d.size → d.size < 4611686018427387904 →
  Calls Tryz.prog 165 #[.slice (some ⟨blk, off, none⟩) d.size cap, .int .i64 a, .int .i64 b] w fun e w' => e = .returned (.tuple #[]) ∧ ∃ n os, w' = grow (putRow encU (Sort.ahead w n) blk off (breakPatterns d a b)) os
 piv : ∀ (blk off cap a b : Nat) (d : Array Int) (w : World), Holds encU w blk off d → blk < w.heap.size → a < b → b ≤ d.size → d.size < 4611686018427387904 →
  Calls Tryz.prog 166 #[.slice (some ⟨blk, off, none⟩) d.size cap, .int .i64 a, .int .i64 b] w fun e w' => e = .returned (.tuple #[.int .i64 (choosePivot ltInt d a b).1, .int .i64 (hintCode (choosePivot ltInt d a b).2)]) ∧ ∃ n os, w' = grow (Sort.ahead w n) os
 par : ∀ (blk off cap a b : Nat) (d : Array Int) (w : World), Holds encU w blk off d → a < b → b ≤ d.size → d.size < 4611686018427387904 →
  Calls Tryz.prog 168 #[.slice (some ⟨blk, off, none⟩) d.size cap, .int .i64 a, .int .i64 b] w fun e w' => e = .returned (.bool (partialInsertionSort ltInt d a b).2) ∧ ∃ n, w' = putRow encU (Sort.ahead w n) blk off (partialInsertionSort ltInt d a b).1
 peq : ∀ (blk off cap a b pivot : Nat) (d : Array Int) (w : World), Holds encU w blk off d → a ≤ pivot → pivot < b → b ≤ d.size → d.size < 4611686018427387904 →
  Calls Tryz.prog 170 #[.slice (some ⟨blk, off, none⟩) d.size cap, .int .i64 a, .int .i64 b, .int .i64 pivot] w fun e w' => e = .returned (.int .i64 (partitionEqual ltInt d a b pivot).1) ∧ ∃ n, w' = putRow encU (Sort.ahead w n) blk off (partitionEqual ltInt d a b pivot).2
 prt : ∀ (blk off cap a b pivot : Nat) (d : Array Int) (w : World), Holds encU w blk off d → a ≤ pivot → pivot < b → b ≤ d.size → d.size < 4611686018427387904 →
  Calls Tryz.prog 171 #[.slice (some ⟨blk, off, none⟩) d.size cap, .int .i64 a, .int .i64 b, .int .i64 pivot] w fun e w' => e = .returned (.tuple #[.int .i64 (partition ltInt d a b pivot).1, .bool (partition ltInt d a b pivot).2.1]) ∧ ∃ n, w' = putRow encU (Sort.ahead w n) blk off (partition ltInt d a b pivot).2.2
set_option maxHeartbeats 6400000 in
set_option maxRecDepth 1000000 in
theorem pdqsort_u (C : Callees13) (S : Plain13) : ∀ (N blk off cap a b limit : Nat) (d : Array Int) (w : World), b - a < N → Holds encU w blk off d → blk < w.heap.size → a ≤ b → b ≤ d.size → d.size < 4611686018427387904 → limit < 4611686018427387904 → Below ltInt a b d →
    Calls Tryz.prog 125 #[.slice (some ⟨blk, off, none⟩) d.size cap, .int .i64 a, .int .i64 b, .int .i64 limit] w fun e w' => e = .returned (.tuple #[]) ∧ At encU w blk off (pdq ltInt d a b limit true true) w' := by
  intro N
  induction N with
  | zero => intro _ _ _ _ _ _ _ _ h; exact absurd h (Nat.not_lt_zero _)
  | succ N ih =>
    intro blk off cap a b limit d w hN hH hblk hab hb hsz hlimit hBel0
    go_enter Tryz.func125, Tryz.ntmps125
    go_wp2
    go_loopg [1, 2, 3, 8, 9] (b - a) (fun k s1 s2 s3 s8 s9 wr => ∃ (a' b' lim : Nat) (wb wp : Bool) (dk : Array Int), s1 = .int .i64 a' ∧ s2 = .int .i64 b' ∧ s3 = .int .i64 lim ∧ s8 = .bool wb ∧ s9 = .bool wp ∧
      a' ≤ b' ∧ b' ≤ d.size ∧ b' - a' ≤ k ∧ k ≤ b - a ∧ lim ≤ limit ∧ dk.size = d.size ∧ Below ltInt a' b' dk ∧ At encU w blk off dk wr ∧ pdq ltInt dk a' b' lim wb wp = pdq ltInt d a b limit true true)
    case atStart => exact ⟨a, b, limit, true, true, d, rfl, rfl, rfl, rfl, rfl, hab, hb, Nat.le_refl _, Nat.le_refl _, Nat.le_refl _, rfl, hBel0, At.refl hH, rfl⟩
    case round =>
      obtain ⟨a', b', lim, wb, wp, dk, rfl, rfl, rfl, rfl, rfl, hab', hb', hk, hkN, hlim, hds, hBel, hAt, heq⟩ := hrel
      obtain ⟨hHk, hblk'⟩ := hAt.holds hH hds hblk
      have A : Aside (pdq ltInt dk a' b' lim wb wp = pdq ltInt d a b limit true true) := heq
      clear heq
      by_cases h12 : b' - a' ≤ 12
      ·
        have h12z : (b' : Int) - (a' : Int) ≤ 12 := by omega
        have hc := C.ins blk off cap a' b' dk wr hHk hab' (by omega) (by omega)
        rw [hds] at hc
        go_wp2_with (go_at_call 163; refine hc.mono ?_; rintro e w1 ⟨rfl, hw1⟩)
        (try simp only [Exit.inBlock, Exit.then]); refine bodyPost_ret (results_none rfl _ _ _) rfl ?_
        refine ⟨rfl, ?_⟩
        rw [← A.out, pdq_small h12]
        exact hAt.step hblk (S.ins S.swo dk a' b' hab' (by omega)).1.1 hw1
      · have h12z : ¬ ((b' : Int) - (a' : Int) ≤ 12) := by omega
        by_cases hl0 : lim = 0
        ·
          subst hl0
          have hc := heapSort_u blk off d.size cap dk hds a' b' wr hHk hab' (by omega) (by omega)
          go_wp2_with (go_at_call 164; refine hc.mono ?_; rintro e w1 ⟨rfl, hw1⟩)
          (try simp only [Exit.inBlock, Exit.then]); refine bodyPost_ret (results_none rfl _ _ _) rfl ?_
          refine ⟨rfl, ?_⟩
          rw [← A.out, pdq_heap h12 rfl]
          exact hAt.step hblk (heapSort_holds S.swo dk a' b' hab' (by omega)).1.1 hw1
        · have hl0z : ¬ ((lim : Int) = 0) := by omega
          obtain ⟨s1, B1, hc1, s2, B2, hpv, s3, B3⟩ := rd_facts (limit := lim) (wb := wb) (wp := wp) S.swo S.par reverseRange_holds (show a' < b' by omega) (show b' ≤ dk.size by omega) hBel
          go_upto_if 35 with fail
          go_cut [3] from 19 (fun s3 wc => s3 = .int .i64 (rd ltInt dk a' b' lim wb wp).lim ∧ At encU w blk off (rd ltInt dk a' b' lim wb wp).d1 wc)
          case first =>
            cases wb
            · have hc := C.brk blk off cap a' b' dk wr hHk hblk' hab' (by omega) (by omega)
              rw [hds] at hc
              go_wp2_with (go_at_call 165; refine hc.mono ?_; rintro e w1 ⟨rfl, hw1⟩)
              go_meet
              case rel =>
                refine ⟨?_, hAt.stepG hblk s1 hw1⟩
                show Value.int .i64 ((lim : Int) - 1) = Value.int .i64 ((lim - 1 : Nat) : Int)
                congr 1
                omega
            · go_wp2_with fail
              go_meet
              case rel => exact ⟨rfl, hAt⟩
          case rest =>
            obtain ⟨rfl, hAt1⟩ := hcut
            obtain ⟨hH1, hblk1⟩ := hAt1.holds hH (s1.trans hds) hblk
            have hc17 : Calls Tryz.prog 166 #[.slice (some ⟨blk, off, none⟩) d.size cap, .int .i64 a', .int .i64 b'] wc fun e w' => e = .returned (.tuple #[.int .i64 (rd ltInt dk a' b' lim wb wp).c.1, .int .i64 (hintCode (rd ltInt dk a' b' lim wb wp).c.2)]) ∧ ∃ n os, w' = grow (Sort.ahead wc n) os := by
              have := C.piv blk off cap a' b' (rd ltInt dk a' b' lim wb wp).d1 wc hH1 hblk1 (by omega) (by omega) (by omega)
              rw [s1, hds] at this
              exact this
            go_upto_if 50 with (go_at_call 166; refine hc17.mono ?_; rintro e w2 ⟨rfl, hw2⟩)
            have hAt2 : At encU w blk off (rd ltInt dk a' b' lim wb wp).d1 w2 := hAt1.same hH (s1.trans hds) hblk hw2
            obtain ⟨hH2, hblk2⟩ := hAt2.holds hH (s1.trans hds) hblk
            go_cut [11, 12] from 19 (fun s11 s12 wc => s11 = .int .i64 (rd ltInt dk a' b' lim wb wp).pivot ∧ s12 = .int .i64 (hintCode (rd ltInt dk a' b' lim wb wp).hint) ∧ At encU w blk off (rd ltInt dk a' b' lim wb wp).d2 wc)
            case first =>
              by_cases hh : (rd ltInt dk a' b' lim wb wp).c.2 = .decreasing
              · have hcode : hintCode (rd ltInt dk a' b' lim wb wp).c.2 = 2 := by rw [hh]; rfl
                obtain ⟨e2, epv, eht⟩ := rd_dec hh
                have hc18 := reverseRange_u blk off cap (rd ltInt dk a' b' lim wb wp).d1 a' b' w2 hH2 hab' (by omega) (by omega)
                rw [s1, hds] at hc18
                go_wp2_with (go_at_call 167; refine hc18.mono ?_; rintro e w3 ⟨rfl, hw3⟩)
                go_meet
                case rel =>
                  refine ⟨?_, by rw [eht]; rfl, by rw [e2]; exact hAt2.step hblk (by rw [← e2, s2, s1]) hw3⟩
                  rw [epv]
                  congr 1
                  omega
              · have hcode : ¬ (hintCode (rd ltInt dk a' b' lim wb wp).c.2 = 2) := fun h => hh (hintCode_two h)
                obtain ⟨e2, epv, eht⟩ := rd_not hh
                go_wp2_with fail
                go_meet
                case rel => exact ⟨by rw [epv], by rw [eht], by rw [e2]; exact hAt2⟩
            case rest =>
              obtain ⟨rfl, rfl, hAt3⟩ := hcut
              obtain ⟨hH3, hblk3⟩ := hAt3.holds hH (s2.trans hds) hblk
              go_upto_region 15 with fail
              go_cut [12, 68] from 19 (fun s12 s68 wx => s12 = .int .i64 (hintCode (rd ltInt dk a' b' lim wb wp).hint) ∧ s68 = .bool (wb && wp && decide ((rd ltInt dk a' b' lim wb wp).hint = .increasing)) ∧ wx = wc)
              case first =>
                cases wb <;> cases wp <;> cases hh3 : (rd ltInt dk a' b' lim _ _).hint <;>
                  (have hcode3 := congrArg hintCode hh3
                   simp only [hintCode] at hcode3
                   go_wp2_with fail
                   go_meet
                   exact ⟨by simp [hh3, hintCode], by simp [hh3, hintCode], rfl⟩)
              case rest =>
                obtain ⟨rfl, rfl, rfl⟩ := hcut
                go_upto_if 68 with fail
                go_cut [] from 19 (fun wx => (rd ltInt dk a' b' lim wb wp).pi.2 = false ∧ At encU w blk off (rd ltInt dk a' b' lim wb wp).pi.1 wx)
                case first =>
                  cases h68 : (wb && wp && decide ((rd ltInt dk a' b' lim wb wp).hint = .increasing))
                  · have epi := rd_pi_no h68
                    go_wp2_with fail
                    go_meet
                    case rel => exact ⟨by rw [epi], by rw [epi]; exact hAt3⟩
                  · have epi := rd_pi_yes h68
                    have hc19 := C.par blk off cap a' b' (rd ltInt dk a' b' lim wb wp).d2 wc hH3 (by omega) (by omega) (by omega)
                    rw [s2, hds, ← epi] at hc19
                    go_wp2_with (go_at_call 168; refine hc19.mono ?_; rintro e w4 ⟨rfl, hw4⟩)
                    all_goals first
                      | (have hp2 : (rd ltInt dk a' b' lim wb wp).pi.2 = false := by rw [epi]; assumption
                         go_meet
                         exact ⟨hp2, hAt3.step hblk (by rw [s3, s2]) hw4⟩)
                      | (have hp2 : (rd ltInt dk a' b' lim wb wp).pi.2 = true := by rw [epi]; assumption
                         (try simp only [Exit.inBlock, Exit.then]); refine bodyPost_ret (results_none rfl _ _ _) rfl ?_
                         refine ⟨rfl, ?_⟩
                         rw [← A.out, pdq_done h12 hl0 hp2]
                         exact hAt3.step hblk (by rw [s3, s2]) hw4)
                case rest =>
                  obtain ⟨hp2, hAt5⟩ := hcut
                  obtain ⟨hH5, hblk5⟩ := hAt5.holds hH (s3.trans hds) hblk
                  have hcw : ∀ t, t < d.size → wc.cell? ⟨blk, off + t, none⟩ = some (.int .u32 (rd ltInt dk a' b' lim wb wp).pi.1[t]!) := fun t ht => (hH5 t (by omega)).1
                  have hfw : ∀ t, t < d.size → wc.frozen? ⟨blk, off + t, none⟩ = false := fun t ht => (hH5 t (by omega)).2
                  go_upto_region 17 with fail
                  go_cut [87] from 19 (fun s87 wx => s87 = .bool (decide (a' > 0) && !ltInt (rd ltInt dk a' b' lim wb wp).pi.1[a' - 1]! (rd ltInt dk a' b' lim wb wp).pi.1[(rd ltInt dk a' b' lim wb wp).pivot]!) ∧ At encU w blk off (rd ltInt dk a' b' lim wb wp).pi.1 wx)
                  case first =>
                    rcases Nat.eq_zero_or_pos a' with ha0 | ha0
                    · have ha0z : decide ((a' : Int) > 0) = false := decide_eq_false (by omega)
                      go_big_quiet (first | (go_at_call 169; refine Calls.quiet_of_same (wB _ _ _)))
                      go_wp2_with fail
                      go_meet
                      case rel => exact ⟨by simp [ha0], hAt5.ahead nq⟩
                    · have ha0z : (a' : Int) > 0 := by omega
                      go_big_quiet (first | (go_at_call 169; refine Calls.quiet_of_same (wB _ _ _)))
                      go_wp2_with fail
                      go_meet
                      case rel => exact ⟨by simp [ha0], hAt5.ahead nq⟩
                  case rest =>
                    obtain ⟨rfl, hAt6⟩ := hcut
                    obtain ⟨hH6, hblk6⟩ := hAt6.holds hH (s3.trans hds) hblk
                    clear hcw hfw
                    cases h87 : (decide (a' > 0) && !ltInt (rd ltInt dk a' b' lim wb wp).pi.1[a' - 1]! (rd ltInt dk a' b' lim wb wp).pi.1[(rd ltInt dk a' b' lim wb wp).pivot]!)
                    ·
                      obtain ⟨mid, ap, d4, hx⟩ : ∃ mid ap d4, partition ltInt (rd ltInt dk a' b' lim wb wp).pi.1 a' b' (rd ltInt dk a' b' lim wb wp).pivot = (mid, ap, d4) := ⟨(partition ltInt (rd ltInt dk a' b' lim wb wp).pi.1 a' b' (rd ltInt dk a' b' lim wb wp).pivot).1, (partition ltInt (rd ltInt dk a' b' lim wb wp).pi.1 a' b' (rd ltInt dk a' b' lim wb wp).pivot).2.1, (partition ltInt (rd ltInt dk a' b' lim wb wp).pi.1 a' b' (rd ltInt dk a' b' lim wb wp).pivot).2.2, rfl⟩
                      obtain ⟨r1, r2, r3, r4, r5, r6, r7⟩ := round_part S.swo S.prt hpv.1 hpv.2 (show b' ≤ (rd ltInt dk a' b' lim wb wp).pi.1.size by omega) B3 hx
                      have hc22 := C.prt blk off cap a' b' (rd ltInt dk a' b' lim wb wp).pivot (rd ltInt dk a' b' lim wb wp).pi.1 wc hH6 hpv.1 hpv.2 (by omega) (by omega)
                      rw [s3, hds, hx] at hc22
                      have X : Aside (partition ltInt (rd ltInt dk a' b' lim wb wp).pi.1 a' b' (rd ltInt dk a' b' lim wb wp).pivot = (mid, ap, d4)) := hx
                      clear hx
                      go_upto_if 113 with (go_at_call 171; refine hc22.mono ?_; rintro e w7 ⟨rfl, hw7⟩)
                      have hx := X.out
                      have hAt7 : At encU w blk off d4 w7 := hAt6.step hblk r3 hw7
                      obtain ⟨hH7, hblk7⟩ := hAt7.holds hH (r3.trans (s3.trans hds)) hblk
                      by_cases h4 : mid - a' < b' - mid
                      · have h4z : (mid : Int) - (a' : Int) < (b' : Int) - (mid : Int) := by omega
                        have hih := ih blk off cap a' mid (rd ltInt dk a' b' lim wb wp).lim d4 w7 (by omega) hH7 hblk7 (by omega) (by omega) (by omega) (Nat.lt_of_le_of_lt (Nat.le_trans rd_lim_le hlim) hlimit) r4
                        rw [r3, s3, hds] at hih
                        obtain ⟨pL, sL⟩ := S.pdq S.swo d4 a' mid (rd ltInt dk a' b' lim wb wp).lim true true (by omega) (by omega) r4
                        go_wp2_with (go_at_call 125; refine hih.mono ?_; rintro e w8 ⟨rfl, hw8⟩)
                        go_roundg (b' - (mid + 1))
                        case measure => omega
                        case rel =>
                          refine ⟨mid + 1, b', (rd ltInt dk a' b' lim wb wp).lim, decide (mid - a' ≥ (b' - a') / 8), ap, pdq ltInt d4 a' mid (rd ltInt dk a' b' lim wb wp).lim true true, by simp, rfl, rfl, ?_, rfl, by omega, by omega, Nat.le_refl _, by omega, Nat.le_trans rd_lim_le hlim, by rw [pL.1, r3, s3, hds], (r6 _ pL sL).1, hAt7.stepG hblk pL.1 hw8, ?_⟩
                          · exact congrArg Value.bool (eighth (by omega) (by omega))
                          · rw [← A.out, pdq_left h12 hl0 hp2 h87 (by rw [hx]; exact ⟨r1, r2⟩) (by rw [hx]; exact h4), hx]
                      · have h4z : ¬ ((mid : Int) - (a' : Int) < (b' : Int) - (mid : Int)) := by omega
                        have hih := ih blk off cap (mid + 1) b' (rd ltInt dk a' b' lim wb wp).lim d4 w7 (by omega) hH7 hblk7 (by omega) (by omega) (by omega) (Nat.lt_of_le_of_lt (Nat.le_trans rd_lim_le hlim) hlimit) r5
                        rw [r3, s3, hds] at hih
                        obtain ⟨pL, sL⟩ := S.pdq S.swo d4 (mid + 1) b' (rd ltInt dk a' b' lim wb wp).lim true true (by omega) (by omega) r5
                        go_wp2_with (go_at_call 125; refine hih.mono ?_; rintro e w8 ⟨rfl, hw8⟩)
                        go_roundg (mid - a')
                        case measure => omega
                        case rel =>
                          refine ⟨a', mid, (rd ltInt dk a' b' lim wb wp).lim, decide (b' - mid ≥ (b' - a') / 8), ap, pdq ltInt d4 (mid + 1) b' (rd ltInt dk a' b' lim wb wp).lim true true, rfl, rfl, rfl, ?_, rfl, by omega, by omega, Nat.le_refl _, by omega, Nat.le_trans rd_lim_le hlim, by rw [pL.1, r3, s3, hds], (r7 _ pL sL).1, hAt7.stepG hblk pL.1 hw8, ?_⟩
                          · exact congrArg Value.bool (eighth (by omega) (by omega))
                          · rw [← A.out, pdq_right h12 hl0 hp2 h87 (by rw [hx]; exact ⟨r1, r2⟩) (by rw [hx]; exact h4), hx]
                    ·
                      have h87' := h87
                      simp only [Bool.and_eq_true, decide_eq_true_eq, Bool.not_eq_true'] at h87'
                      obtain ⟨mid, d4, hx⟩ : ∃ mid d4, partitionEqual ltInt (rd ltInt dk a' b' lim wb wp).pi.1 a' b' (rd ltInt dk a' b' lim wb wp).pivot = (mid, d4) := ⟨(partitionEqual ltInt (rd ltInt dk a' b' lim wb wp).pi.1 a' b' (rd ltInt dk a' b' lim wb wp).pivot).1, (partitionEqual ltInt (rd ltInt dk a' b' lim wb wp).pi.1 a' b' (rd ltInt dk a' b' lim wb wp).pivot).2, rfl⟩
                      obtain ⟨r1, r2, r3, r4, _⟩ := round_eq S.swo S.peq h87'.1 hpv.1 hpv.2 (show b' ≤ (rd ltInt dk a' b' lim wb wp).pi.1.size by omega) B3 h87'.2 hx
                      have hc21 := C.peq blk off cap a' b' (rd ltInt dk a' b' lim wb wp).pivot (rd ltInt dk a' b' lim wb wp).pi.1 wc hH6 hpv.1 hpv.2 (by omega) (by omega)
                      rw [s3, hds, hx] at hc21
                      have X : Aside (partitionEqual ltInt (rd ltInt dk a' b' lim wb wp).pi.1 a' b' (rd ltInt dk a' b' lim wb wp).pivot = (mid, d4)) := hx
                      clear hx
                      go_wp2_with (go_at_call 170; refine hc21.mono ?_; rintro e w7 ⟨rfl, hw7⟩)
                      go_roundg (b' - mid)
                      case measure => omega
                      case rel =>
                        have hx := X.out
                        exact ⟨mid, b', (rd ltInt dk a' b' lim wb wp).lim, wb, wp, d4, rfl, rfl, rfl, rfl, rfl, r2, hb', Nat.le_refl _, by omega, Nat.le_trans rd_lim_le hlim, by rw [r3, s3, hds], r4, hAt6.step hblk r3 hw7, by rw [← A.out, pdq_eq h12 hl0 hp2 h87 (by rw [hx]; exact ⟨r1, r2⟩), hx]⟩
open Go.Sort Go.RowKit
theorem insertion_u_nil (p : Option Addr) (cap : Nat) (w : World) :
  Calls Tryz.prog 163 #[.slice p 0 cap, .int .i64 0, .int .i64 0] w fun e w' => e = .returned (.tuple #[]) ∧ w' = w := by
 go_enter Tryz.func163, Tryz.ntmps163
 go_wp2
 refine wp_loop_rounds 1 ?_
 rw [rounds_succ]
 go_wp2
 go_end0
 exact ⟨rfl, rfl⟩
set_option maxRecDepth 100000 in
theorem pdqsort_u_nil (p : Option Addr) (cap : Nat) (w : World) :
  Calls Tryz.prog 125 #[.slice p 0 cap, .int .i64 0, .int .i64 0, .int .i64 0] w fun e w' => e = .returned (.tuple #[]) ∧ w' = w := by
 go_enter Tryz.func125, Tryz.ntmps125
 go_wp2
 refine wp_loop_rounds 1 ?_
 rw [rounds_succ]
 go_wp2_with (first | (go_at_call 163; refine (insertion_u_nil p cap _).mono ?_; rintro e w' ⟨rfl, rfl⟩))
 refine bodyPost_ret (results_none rfl _ _ _) rfl ?_
 exact ⟨rfl, rfl⟩
set_option maxRecDepth 100000 in
theorem Sort_u_nil (p : Option Addr) (cap : Nat) (w : World) :
  Calls Tryz.prog 103 #[.slice p 0 cap] w fun e w' => e = .returned (.tuple #[]) ∧ w' = w := by
 have hLen : ∀ w, Calls Tryz.prog 101 #[.int .u64 0] w fun e w' => e = .returned (.int .i64 0) ∧ w' = w := fun w => Tryz.bits_Len 0 w (by omega) (by omega)
 go_enter Tryz.func103, Tryz.ntmps103
 go_wp2_with (first
  | (go_at_call 101; refine (hLen _).mono ?_; rintro e w' ⟨rfl, rfl⟩)
  | (go_at_call 125; refine (pdqsort_u_nil p cap _).mono ?_; rintro e w' ⟨rfl, rfl⟩))
 go_end0
 exact ⟨rfl, rfl⟩
def pdqWalk_u : Prop := ∀ (blk off cap a b limit : Nat) (d : Array Int) (w : World), Holds encU w blk off d → blk < w.heap.size → a ≤ b → b ≤ d.size → d.size < 4611686018427387904 → limit < 4611686018427387904 → Below ltInt a b d →
 Calls Tryz.prog 125 #[.slice (some ⟨blk, off, none⟩) d.size cap, .int .i64 a, .int .i64 b, .int .i64 limit] w fun e w' =>
  e = .returned (.tuple #[]) ∧ ∃ n os, w' = grow (putRow encU (Sort.ahead w n) blk off (Sort.pdq ltInt d a b limit true true)) os
set_option maxRecDepth 100000 in
theorem Sort_u (hpdq : pdqWalk_u) (blk off cap : Nat) (d : Array Int) (w : World) (hH : Holds encU w blk off d) (hblk : blk < w.heap.size) (hsz : d.size < 4611686018427387904) :
  Calls Tryz.prog 103 #[.slice (some ⟨blk, off, none⟩) d.size cap] w fun e w' => e = .returned (.tuple #[]) ∧ ∃ n os, w' = grow (putRow encU (Sort.ahead w n) blk off (Sort.sort ltInt d)) os := by
 have HH : Hid (Holds encU w blk off d) := hH
 clear hH
 have hLen : ∀ w, Calls Tryz.prog 101 #[.int .u64 (d.size : Int)] w fun e w' => e = .returned (.int .i64 (bitsLen d.size : Nat)) ∧ w' = w := fun w => by
  have h := Tryz.bits_Len (d.size : Int) w (by omega) (by omega)
  rwa [Int.toNat_natCast, bitLen_eq _ (by omega)] at h
 have hk : bitsLen d.size ≤ 62 := (bitsLen_le_iff d.size 62).2 (by omega)
 go_enter Tryz.func103, Tryz.ntmps103
 go_wp2_with (first
  | (go_at_call 101; refine (hLen _).mono ?_; rintro e w' ⟨rfl, rfl⟩)
  | (go_at_call 125; refine (hpdq blk off cap 0 d.size (bitsLen d.size) d _ (by exact HH.out) (by exact hblk) (Nat.zero_le _) (Nat.le_refl _) hsz (by omega) (Or.inl rfl)).mono ?_; rintro e w' ⟨rfl, n, os, rfl⟩))
 go_end0
 exact ⟨rfl, n, os, rfl⟩
theorem callees13 : Callees13 where
 ins := insertion_u
 brk := breakPatterns_u
 piv := choosePivot_u
 par := partialInsertionSort_u
 peq := partitionEqualOrdered_u
 prt := partitionOrdered_u
theorem plain13 : Go.Proofs.Plain13 where
 swo := swo_ltInt
 ins := insertionSort_holds
 par := partialInsertionSort_holds
 prt := partition_holds _
 peq := partitionEqual_holds _
 pdq := pdq_sorts _
theorem pdqWalkU : pdqWalk_u := fun blk off cap a b limit d w hH hb hab hbd hsz hl hB =>
 pdqsort_u callees13 plain13 (b - a + 1) blk off cap a b limit d w (by omega) hH hb hab hbd hsz hl hB
theorem slices_Sort_u (blk off cap : Nat) (zs : List Int) (w : World) (hH : Holds encU w blk off zs.toArray) (hblk : blk < w.heap.size) (hsz : zs.length < 4611686018427387904) :
  Calls Tryz.prog 103 #[.slice (some ⟨blk, off, none⟩) zs.length cap] w fun e w' =>
   e = .returned (.tuple #[]) ∧ ∃ n os, w' = grow (putRow encU (Sort.ahead w n) blk off (zs.mergeSort fun x y => decide (x ≤ y)).toArray) os := by
 have h := Sort_u pdqWalkU blk off cap zs.toArray w hH hblk (by simpa using hsz)
 have e : Sort.sort ltInt zs.toArray = (zs.mergeSort fun x y => decide (x ≤ y)).toArray := by rw [← sortInt zs]
 rw [e] at h
 simpa using h
open Go.RowKit Go.Maps Go.Sort
theorem sorts_u (m : Nat) : Sorts_u Fence.wide m :=
 ⟨fun blk off cap ss W hH hblk hsz => callsIn_wide.2 (slices_Sort_u blk off cap ss W hH hblk hsz), fun p cap W => callsIn_wide.2 (Sort_u_nil p cap W)⟩
theorem addrs_c (x : Ex) (w : World) (hx : EvsIn w.heap.size w x.es x.evs) (hlen : x.evs.length ≤ 64) :
  Calls Tryz.prog 51 #[x.agg] w fun o w' => ∃ s : Sl, o = .returned (.slice s.a s.n s.c) ∧ IntsIn .u32 w'.heap.size w' s (addrsTo x.evs) ∧ Below w.heap.size w w' :=
 addresses_c sorts_u x w hx hlen
theorem IntsIn.row {B : Nat} {w : World} {s : Sl} {l : List Int} (h : IntsIn .i64 B w s l) : RowOf B w (.slice s.a s.n s.c) l := by
 obtain ⟨h1, h2, h3⟩ := h
 rcases h3 with h3 | ⟨b, off, h4, h5, h6⟩
 ·subst h3
  exact Or.inl ⟨⟨s.a, s.c, by rw [h1]; rfl⟩, rfl⟩
 ·exact Or.inr ⟨b, off, s.c, by rw [h4, h1], h5, h6⟩
theorem qG (a : Option Addr) (n c : Nat) (w : World) :
  Calls Tryz.prog 81 #[.slice a n c] w fun e w' => e = .returned (.func (.func 105) #[] #[.pointer (some ⟨w.heap.size, 0, none⟩)]) ∧ w' = w.alloc (.cells #[.slice a n c] 23) :=
 callsIn_wide.1 (values_i Fence.wide (fun _ => trivial) 0 rfl a n c w)
theorem enters_vals : ∀ args w, (callFunc 105 args).run Tryz.prog w = .ok (.enter 105 args) w := enters_of Tryz.func105 (by kernel_rfl) rfl
def sortI (l : List Int) : List Int := l.mergeSort (fun x y => decide (x ≤ y))
theorem sortedVals_c (Bs : Nat) (s : Sl) (l : List Int) (w : World) (hBs : Bs < w.heap.size) (hc : w.cell? ⟨Bs, 0, none⟩ = some (.slice s.a s.n s.c)) (hl : IntsIn .i64 w.heap.size w s l) (hlen : l.length ≤ 65536) :
  Calls Tryz.prog 48 #[.func (.func 105) #[] #[.pointer (some ⟨Bs, 0, none⟩)]] w fun e w' => ∃ s' : Sl, e = .returned (.slice s'.a s'.n s'.c) ∧ IntsIn .i64 w'.heap.size w' s' (sortI l) ∧ Below w.heap.size w w' := by
 refine callsIn_wide.1 ((sorted_i Fence.wide (fun _ => trivial) 5 rfl (by omega) (sorts_i _) _ _ enters_vals (Below w.heap.size) (fun ys => ys = l) (fun _ => True) l.length (by unfold maxLen; omega) (by omega) w belowK_t (belowK_b (Nat.le_refl _)) (fun _ _ _ h => h)
  (values_stops Fence.wide (fun _ => trivial) _ rfl (by omega) Bs w.heap.size (.slice s.a s.n s.c) l (by omega) w hBs (Nat.le_refl _) hc hl.row)).mono ?_)
 rintro e w' ⟨v, ss, rfl, rfl, _, hrow, hnil, hb⟩
 have e2 : (sortI ss).length = ss.length := List.length_mergeSort ss
 rw [← e2] at hrow
 obtain ⟨s', hv, hi⟩ := iD .i64 (l := sortI ss) (by rw [e2]; omega) hrow
 exact ⟨s', by rw [hv], hi, hb⟩
theorem equal_c (s1 s2 : Sl) (l1 l2 : List Int) (B1 B2 : Nat) (w : World) (h1 : IntsIn .i64 B1 w s1 l1) (h2 : IntsIn .i64 B2 w s2 l2) :
  Calls Tryz.prog 80 #[.slice s1.a s1.n s1.c, .slice s2.a s2.n s2.c] w fun e w' => e = .returned (.bool (l1 == l2)) ∧ ∃ q, w' = w.drewN q := by
 obtain ⟨a1, b1, c1⟩ := h1
 obtain ⟨a2, b2, c2⟩ := h2
 by_cases hn : l1.length = l2.length
 ·rcases c1 with c1 | ⟨p1, o1, c1, _, d1⟩
  ·subst c1
   have : l2 = [] := List.length_eq_zero_iff.1 hn.symm
   subst this
   rw [a1, a2]
   refine (Tryz.slices_Equal_int_empty s1.a s2.a s1.c 0 s2.c w (by omega)).mono ?_
   rintro e w' ⟨rfl, rfl⟩
   exact ⟨rfl, 0, rfl⟩
  ·rcases c2 with c2 | ⟨p2, o2, c2, _, d2⟩
   ·subst c2
    have : l1 = [] := List.length_eq_zero_iff.1 hn
    subst this
    rw [a1, a2]
    refine (Tryz.slices_Equal_int_empty s1.a s2.a s1.c 0 s2.c w (by omega)).mono ?_
    rintro e w' ⟨rfl, rfl⟩
    exact ⟨rfl, 0, rfl⟩
   ·rw [a1, a2, c1, c2]
    refine (Tryz.slices_Equal_int p1 o1 l1.length s1.c p2 o2 l2.length s2.c l1 l2 w (Nat.le_refl _) (Nat.le_refl _) (by omega) (by omega) d1 d2).mono ?_
    rintro e w' ⟨rfl, h⟩
    exact ⟨by rw [List.take_length, List.take_length], h⟩
 ·rw [a1, a2]
  refine (Tryz.slices_Equal_int_lens s1.a s2.a l1.length s1.c l2.length s2.c w hn).mono ?_
  rintro e w' ⟨rfl, rfl⟩
  refine ⟨?_, 0, rfl⟩
  have : l1 ≠ l2 := fun h => hn (by rw [h])
  rw [show (l1 == l2) = false by simpa using this]
def wantTo (es : List Ev) (a : Int) (k : Nat) : List Int := ((List.range k).filter (fun n => (es.getD n default).stB && ((es.getD n default).addr == a))).map Int.ofNat
def rowOk (es : List Ev) (ad : List Int) (i : Nat) (l : List Int) : Bool := !(l.length == 0) && !(l.getD 0 0 != (i : Int)) && (sortI l == wantTo es (ad.getD i 0) es.length)
def rowsTo (es : List Ev) (ad : List Int) (rows : List (Sl × List Int)) (k : Nat) : Bool := (List.range k).all (fun i => rowOk es ad i (rows.getD i default).2)
def orderB (es : List Ev) (ad : List Int) (rows : List (Sl × List Int)) : Bool := decide (rows.length = ad.length) && rowsTo es ad rows rows.length
theorem gF (es : List Ev) (ad : List Int) (rows : List (Sl × List Int)) (k : Nat) : rowsTo es ad rows (k + 1) = (rowsTo es ad rows k && rowOk es ad k (rows.getD k default).2) := by
 simp [rowsTo, List.range_succ]
theorem aN (es : List Ev) (ad : List Int) (rows : List (Sl × List Int)) (k : Nat) (hk : k < rows.length) (h : rowOk es ad k (rows.getD k default).2 = false) : orderB es ad rows = false := by
 unfold orderB rowsTo
 rw [Bool.and_eq_false_iff]
 right
 rw [List.all_eq_false]
 exact ⟨k, by simpa using hk, by simpa using h⟩
theorem wantTo_succ (es : List Ev) (a : Int) (k : Nat) : wantTo es a (k + 1) = if ((es.getD k default).stB && ((es.getD k default).addr == a)) = true then wantTo es a k ++ [(k : Int)] else wantTo es a k := by
 unfold wantTo
 rw [List.range_succ, List.filter_append, List.map_append]
 simp only [List.filter_cons, List.filter_nil]
 cases h : ((es.getD k default).stB && ((es.getD k default).addr == a))
 ·simp only [Bool.false_eq_true, if_false, List.map_nil, List.append_nil]
 ·simp only [if_true, List.map_cons, List.map_nil]; rfl
theorem gY (es : List Ev) (a : Int) (k : Nat) : (wantTo es a k).length ≤ k := by
 unfold wantTo
 rw [List.length_map]
 refine Nat.le_trans (List.length_filter_le _ _) (by simp)
theorem wX {n₀ base k size : Nat} {e : TypeId} {v : Value} {xs : List Value} {w w' : World} (h : w.ownsRow base e size v k xs) (hb : Below n₀ w w') (hlt : w.heap.size ≤ n₀) : w'.ownsRow base e size v k xs := by
 refine ⟨h.1, ?_⟩
 rcases h.2 with hn | ⟨g, cap, cur, hv, hg, hbg, rest⟩
 ·exact .inl hn
 ·exact .inr ⟨g, cap, cur, hv, hg, (hb.block g (by have := (Array.getElem?_eq_some_iff.1 hbg).1; omega)).trans hbg, rest⟩
open Go.RowKit Go.Maps Go.Sort
set_option maxRecDepth 100000 in
set_option maxHeartbeats 1000000 in
theorem order_len_c (x : Ex) (s : Sl) (ad : List Int) (w : World) (hx : x.inW w.heap.size w) (hl : IntsIn .u32 w.heap.size w s ad) (hlen : x.order.length ≠ ad.length) :
  Calls Tryz.prog 54 #[x.agg, .slice s.a s.n s.c] w fun o w' => o = .returned (.bool false) ∧ Below w.heap.size w w' := by
 obtain ⟨on, osm, _⟩ := hx.2.2
 obtain ⟨sn, ssm, _⟩ := hl
 have XA : Hid (x.agg = .agg #[.slice x.es.a x.es.n x.es.c, .slice x.fs.a x.fs.n x.fs.c, .slice x.os.a x.order.length x.os.c]) := Lib.hid (by unfold Ex.agg; rw [on])
 rw [XA.out, sn]
 clear on sn hx
 have hl1 : ((x.order.length : Int) != (ad.length : Int)) = true := by simp; omega
 have hl2 : (x.order.length != ad.length) = true := by simp; omega
 clear hlen
 go_enter Tryz.func54, Tryz.ntmps54
 go_wp2
 go_ret
 exact ⟨rfl, (Below.refl _ _).alloc (Nat.le_refl _) _⟩
set_option maxRecDepth 100000 in
set_option maxHeartbeats 4000000 in
theorem order_eq_c (x : Ex) (s : Sl) (ad : List Int) (w : World) (hx : x.inW w.heap.size w) (hl : IntsIn .u32 w.heap.size w s ad) (hlen : x.order.length = ad.length) (h64 : x.evs.length ≤ 64) (hrows : ∀ r ∈ x.order, r.2.length ≤ 65536) :
  Calls Tryz.prog 54 #[x.agg, .slice s.a s.n s.c] w fun o w' => o = .returned (.bool (orderB x.evs ad x.order)) ∧ Below w.heap.size w w' := by
 obtain ⟨⟨ea, en, ec⟩, ⟨fa, fn, fc⟩, ⟨oa, on, oc⟩, evs, from_, rows⟩ := x
 obtain ⟨sa, sn, sc⟩ := s
 obtain ⟨⟨e1, esm, hev, ecl⟩, _, ⟨o1, osm, hrow, ocl⟩⟩ := hx
 obtain ⟨s1, ssm, scl⟩ := hl
 dsimp only at e1 esm hev ecl o1 osm hrow ocl s1 ssm scl hlen h64 hrows
 subst e1 o1 s1
 unfold Ex.agg
 dsimp only
 obtain ⟨res, hres⟩ : ∃ z : Bool, orderB evs ad rows = z := ⟨_, rfl⟩
 rw [hres]
 have RES := Lib.hid hres
 clear hres
 have hl1 : ((rows.length : Int) != (ad.length : Int)) = false := by simp; omega
 have hl2 : (rows.length != ad.length) = false := by simp; omega
 have hle : rows.length ≤ ad.length := by omega
 have HLEN := Lib.hid hlen
 have HCL := Lib.hid ecl
 have OCL := Lib.hid ocl
 have SCL := Lib.hid scl
 have HROW := Lib.hid hrow
 have HRS := Lib.hid hrows
 clear hlen ecl ocl scl hrow hrows hev
 obtain ⟨i0, hi, jz0, jz1, jz2⟩ := info_parts oZ
 go_enter Tryz.func54, Tryz.ntmps54
 go_upto_region 1 with (fail)
 refine wU (X := fun W => Code.wp _ _ _ _ W) ?_
 intro wc hb hsz hcs
 have c0 : wc.cell? ⟨w.heap.size, 0, none⟩ = some (.slice ea evs.length ec) := hcs 0 _ rfl
 have c2 : wc.cell? ⟨w.heap.size, 2, none⟩ = some (.slice oa rows.length oc) := hcs 2 _ rfl
 clear hcs
 go_wp2
 go_loopw [19] (fun i wr => ∃ k : Nat, k ≤ rows.length ∧ i = .int .i64 k ∧ rowsTo evs ad rows k = true ∧ Below wc.heap.size wc wr) (fun i _ => rows.length - (intOf i).toNat)
 case atStart => exact ⟨0, by omega, rfl, rfl, Below.refl _ _⟩
 case round =>
  rename World => wo
  obtain ⟨k, hk, rfl, hto, hbr⟩ := hrel
  have HTO := Lib.hid hto
  clear hto
  have hzr := hbr.size
  by_cases hlt : k < rows.length
  ·have hlt2 : k < ad.length := by omega
   obtain ⟨ob, oo, rfl, hob, hoc⟩ := OCL.out.resolve_left (by intro h; rw [h] at hlt; simp at hlt)
   obtain ⟨ab, ao, rfl, hab, hac⟩ := SCL.out.resolve_left (by intro h; rw [h] at hlt2; simp at hlt2)
   obtain ⟨⟨⟨ra, rn, rc⟩, l⟩, hR⟩ : ∃ R, rows.getD k default = R := ⟨_, rfl⟩
   have hmem : (⟨⟨ra, rn, rc⟩, l⟩ : Sl × List Int) ∈ rows := by rw [← hR, List.getD_eq_getElem?_getD, List.getElem?_eq_getElem hlt]; exact List.getElem_mem hlt
   have hlI := HROW.out _ hmem
   have hl65 := HRS.out _ hmem
   dsimp only at hlI hl65
   have hrn : rn = l.length := hlI.1
   subst hrn
   have hbw : Below w.heap.size w wo := hb.trans (hbr.mono (by omega))
   have ck : wo.cell? ⟨ob, oo + k, none⟩ = some (.slice ra l.length rc) := by
    rw [hbw.cell (p := ⟨ob, oo + k, none⟩) hob, hoc k hlt, hR]; rfl
   obtain ⟨A, hA⟩ : ∃ A, ad.getD k 0 = A := ⟨_, rfl⟩
   have ca : wo.cell? ⟨ab, ao + k, none⟩ = some (.int .u32 A) := by rw [hbw.cell (p := ⟨ab, ao + k, none⟩) hab, hac k hlt2, hA]
   have c0r : wo.cell? ⟨w.heap.size, 0, none⟩ = some (.slice ea evs.length ec) := (hbr.cell (p := ⟨w.heap.size, 0, none⟩) hsz).trans c0
   have c2r : wo.cell? ⟨w.heap.size, 2, none⟩ = some (.slice (some ⟨ob, oo, none⟩) rows.length oc) := (hbr.cell (p := ⟨w.heap.size, 2, none⟩) hsz).trans c2
   have RK : Hid (rowOk evs ad k (rows.getD k default).2 = (!(l.length == 0) && !(l.getD 0 0 != (k : Int)) && (sortI l == wantTo evs A evs.length))) := Lib.hid (by rw [hR]; unfold rowOk; rw [hA])
   have LI := Lib.hid hlI
   have HBW := Lib.hid hbw
   clear hR hA hac hoc hmem hlI hbw
   go_wp2
   go_loopw [27, 7] (fun i v w2 => ∃ m : Nat, m ≤ evs.length ∧ i = .int .i64 m ∧ w2.ownsRow wo.heap.size 3 1 v (wantTo evs A m).length ((wantTo evs A m).map (Value.int .i64)) ∧ Below wo.heap.size wo w2) (fun i _ _ => evs.length - (intOf i).toNat)
   case atStart => exact ⟨0, by omega, rfl, World.ownsRow_nil _ _ _ _, Below.refl _ _⟩
   case round =>
    obtain ⟨m, hm, rfl, hrow, hb2⟩ := hrel
    have hz2 := hb2.size
    by_cases hmt : m < evs.length
    ·obtain ⟨b, off, rfl, hbB, hcl⟩ := HCL.out.resolve_left (by intro h; rw [h] at hmt; simp at hmt)
     obtain ⟨E, hE⟩ : ∃ E, evs.getD m default = E := ⟨_, rfl⟩
     have hcE := (((hcl m hmt).below HBW.out hbB)).below hb2 (show b < wo.heap.size by omega)
     rw [hE] at hcE
     unfold EvCells at hcE
     obtain ⟨q0, q1, q2, q3, q4, q5, q6, q7, q8, q9, q10, q11, q12⟩ := hcE
     have HW : Hid (wantTo evs A (m + 1) = if (E.stB && (E.addr == A)) = true then wantTo evs A m ++ [(m : Int)] else wantTo evs A m) := Lib.hid (by rw [wantTo_succ, hE])
     have c0m : wr.cell? ⟨w.heap.size, 0, none⟩ = some (.slice (some ⟨b, off, none⟩) evs.length ec) := (hb2.cell (p := ⟨w.heap.size, 0, none⟩) (by show w.heap.size < _; omega)).trans c0r
     have cam : wr.cell? ⟨ab, ao + k, none⟩ = some (.int .u32 A) := (hb2.cell (p := ⟨ab, ao + k, none⟩) (by show ab < _; omega)).trans ca
     have hwl := gY evs A m
     clear hE hcl
     have HRW := Lib.hid hrow
     have HB2 := Lib.hid hb2
     clear hrow
     go_upto_region 10 with (fail)
     refine wU (X := fun W => Code.wp _ _ _ _ W) ?_
     intro w3 hb3 hs3 hcs3
     have t0 : (w3).cell? ⟨wr.heap.size, 0, none⟩ = some (Value.int IntKind.i64 E.hart) := hcs3 0 _ rfl
     have t1 : (w3).cell? ⟨wr.heap.size, 1, none⟩ = some (Value.int IntKind.i64 E.kind) := hcs3 1 _ rfl
     have t2 : (w3).cell? ⟨wr.heap.size, 2, none⟩ = some (Value.int IntKind.u32 E.addr) := hcs3 2 _ rfl
     have t3 : (w3).cell? ⟨wr.heap.size, 3, none⟩ = some (Value.int IntKind.u32 E.val) := hcs3 3 _ rfl
     have t4 : (w3).cell? ⟨wr.heap.size, 4, none⟩ = some (Value.int IntKind.u32 E.rval) := hcs3 4 _ rfl
     have t5 : (w3).cell? ⟨wr.heap.size, 5, none⟩ = some (Value.bool E.aq) := hcs3 5 _ rfl
     have t6 : (w3).cell? ⟨wr.heap.size, 6, none⟩ = some (Value.bool E.rl) := hcs3 6 _ rfl
     have t7 : (w3).cell? ⟨wr.heap.size, 7, none⟩ = some (Value.int IntKind.i64 E.pred) := hcs3 7 _ rfl
     have t8 : (w3).cell? ⟨wr.heap.size, 8, none⟩ = some (Value.int IntKind.i64 E.succ) := hcs3 8 _ rfl
     have t9 : (w3).cell? ⟨wr.heap.size, 9, none⟩ = some (Value.bool E.rsv) := hcs3 9 _ rfl
     have t10 : (w3).cell? ⟨wr.heap.size, 10, none⟩ = some (Value.slice E.av.a E.av.n E.av.c) := hcs3 10 _ rfl
     have t11 : (w3).cell? ⟨wr.heap.size, 11, none⟩ = some (Value.slice E.dv.a E.dv.n E.dv.c) := hcs3 11 _ rfl
     have t12 : (w3).cell? ⟨wr.heap.size, 12, none⟩ = some (Value.slice E.cv.a E.cv.n E.cv.c) := hcs3 12 _ rfl
     clear hcs3 q0 q1 q2 q3 q4 q5 q6 q7 q8 q9 q10 q11 q12
     have r3 : ∀ p, (vR w3 p).cell? ⟨ab, ao + k, none⟩ = some (.int .u32 A) := fun p => uR w3 p (by omega) ((hb3.cell (p := ⟨ab, ao + k, none⟩) (by show ab < _; omega)).trans cam)
     clear c0m cam
     have SC := Lib.hid (fun w => mT E w)
     have y0 : ∀ p, (vR w3 p).cell? ⟨wr.heap.size, 0, none⟩ = some (Value.int IntKind.i64 E.hart) := fun p => uR w3 p hs3 t0
     have y1 : ∀ p, (vR w3 p).cell? ⟨wr.heap.size, 1, none⟩ = some (Value.int IntKind.i64 E.kind) := fun p => uR w3 p hs3 t1
     have y2 : ∀ p, (vR w3 p).cell? ⟨wr.heap.size, 2, none⟩ = some (Value.int IntKind.u32 E.addr) := fun p => uR w3 p hs3 t2
     have y3 : ∀ p, (vR w3 p).cell? ⟨wr.heap.size, 3, none⟩ = some (Value.int IntKind.u32 E.val) := fun p => uR w3 p hs3 t3
     have y4 : ∀ p, (vR w3 p).cell? ⟨wr.heap.size, 4, none⟩ = some (Value.int IntKind.u32 E.rval) := fun p => uR w3 p hs3 t4
     have y5 : ∀ p, (vR w3 p).cell? ⟨wr.heap.size, 5, none⟩ = some (Value.bool E.aq) := fun p => uR w3 p hs3 t5
     have y6 : ∀ p, (vR w3 p).cell? ⟨wr.heap.size, 6, none⟩ = some (Value.bool E.rl) := fun p => uR w3 p hs3 t6
     have y7 : ∀ p, (vR w3 p).cell? ⟨wr.heap.size, 7, none⟩ = some (Value.int IntKind.i64 E.pred) := fun p => uR w3 p hs3 t7
     have y8 : ∀ p, (vR w3 p).cell? ⟨wr.heap.size, 8, none⟩ = some (Value.int IntKind.i64 E.succ) := fun p => uR w3 p hs3 t8
     have y9 : ∀ p, (vR w3 p).cell? ⟨wr.heap.size, 9, none⟩ = some (Value.bool E.rsv) := fun p => uR w3 p hs3 t9
     have y10 : ∀ p, (vR w3 p).cell? ⟨wr.heap.size, 10, none⟩ = some (Value.slice E.av.a E.av.n E.av.c) := fun p => uR w3 p hs3 t10
     have y11 : ∀ p, (vR w3 p).cell? ⟨wr.heap.size, 11, none⟩ = some (Value.slice E.dv.a E.dv.n E.dv.c) := fun p => uR w3 p hs3 t11
     have y12 : ∀ p, (vR w3 p).cell? ⟨wr.heap.size, 12, none⟩ = some (Value.slice E.cv.a E.cv.n E.cv.c) := fun p => uR w3 p hs3 t12
     clear t0 t1 t2 t3 t4 t5 t6 t7 t8 t9 t10 t11 t12
     have hrow3 := wX HRW.out hb3 (Nat.le_refl _)
     have HB3 : Hid (∀ W, Below w3.heap.size w3 W → Below wo.heap.size wo W) := Lib.hid (fun W h => hb2.trans ((hb3.mono hz2).trans (h.mono (by omega))))
     cases hst : E.stB with
     | false =>
      have ST := Lib.hid hst
      clear hst
      go_wp2
      refine uT (by kernel_rfl) (by kernel_rfl) ?_
      repeat (go_big_quiet_step (((go_at_call 79; refine vV (?_ : Calls _ _ _ _ fun e w' => e = .returned (.bool false) ∧ _); have t := SC.out; rw [ST.out] at t; exact t _))))
      refine wpQuiet_nil ?_
      intro wq hwq
      obtain ⟨pq, hwq2⟩ := hwq
      have hbq : Below (w3).heap.size (w3) wq := by rw [hwq2]; exact vF (w3) pq
      clear hwq2
      go_wp2
      go_roundw
      case rel => first | exact ⟨m + 1, by omega, by go_num, by rw [HW.out, ST.out]; exact wX hrow3 hbq (Nat.le_refl _), HB3.out wq hbq⟩ | ((repeat apply Exists.intro); exact ⟨⟨m + 1, by omega, by go_num, by rw [HW.out, ST.out]; exact wX hrow3 hbq (Nat.le_refl _), HB3.out wq hbq⟩, rfl⟩)
      case measure => simp [intOf]; omega
     | true =>
      have ST := Lib.hid hst
      clear hst
      obtain ⟨bA, hbA⟩ : ∃ bool_ : Bool, (E.addr == A) = bool_ := ⟨_, rfl⟩
      have BA := Lib.hid hbA
      cases bA with
      | false =>
       go_wp2
       refine uT (by kernel_rfl) (by kernel_rfl) ?_
       repeat (go_big_quiet_step (((go_at_call 79; refine vV (?_ : Calls _ _ _ _ fun e w' => e = .returned (.bool true) ∧ _); have t := SC.out; rw [ST.out] at t; exact t _))))
       refine wpQuiet_nil ?_
       intro wq hwq
       obtain ⟨pq, hwq2⟩ := hwq
       have hbq : Below (w3).heap.size (w3) wq := by rw [hwq2]; exact vF (w3) pq
       clear hwq2
       go_wp2
       go_roundw
       case rel => first | exact ⟨m + 1, by omega, by go_num, by rw [HW.out, ST.out, BA.out]; exact wX hrow3 hbq (Nat.le_refl _), HB3.out wq hbq⟩ | ((repeat apply Exists.intro); exact ⟨⟨m + 1, by omega, by go_num, by rw [HW.out, ST.out, BA.out]; exact wX hrow3 hbq (Nat.le_refl _), HB3.out wq hbq⟩, rfl⟩)
       case measure => simp [intOf]; omega
      | true =>
       go_wp2
       refine uT (by kernel_rfl) (by kernel_rfl) ?_
       repeat (go_big_quiet_step (((go_at_call 79; refine vV (?_ : Calls _ _ _ _ fun e w' => e = .returned (.bool true) ∧ _); have t := SC.out; rw [ST.out] at t; exact t _))))
       refine wpQuiet_nil ?_
       intro wq hwq
       obtain ⟨pq, hwq2⟩ := hwq
       have hbq : Below (w3).heap.size (w3) wq := by rw [hwq2]; exact vF (w3) pq
       clear hwq2
       have hrowq := wX hrow3 hbq (Nat.le_refl _)
       have hzq : wo.heap.size ≤ wq.heap.size := (HB3.out wq hbq).size
       go_wp2_with (first
        | (at_builtin; refine wpList_append_own _ rfl _ _ 23 rfl wo.heap.size 3 i0 (.int .i64 0) 1 8 Tryz.underlying23 hi jz0 jz1 jz2 rfl (by decide) _ _ _ rfl (hrowq.alloc _) ⟨wq.heap.size, 0, none⟩ 1 1 [.int .i64 (m : Int)] rfl rfl (cell_one_new _ _ _) (by simp [Value.oneCell']) (by unfold maxLen; omega) (by omega) (by simp; omega) ?_; intro v' w5 hown' hgrow5 hnil5; obtain ⟨g', cap', rfl⟩ := ownsRow_succ hown')
        | go_in)
       go_roundw
       case rel => first | exact ⟨m + 1, by omega, by go_num, by rw [HW.out, ST.out, BA.out]; simpa using hown', (((HB3.out wq hbq).alloc hzq _).grown hgrow5 (by simp; omega) (fun k e => (hrowq.lt k e).1))⟩ | ((repeat apply Exists.intro); exact ⟨⟨m + 1, by omega, by go_num, by rw [HW.out, ST.out, BA.out]; simpa using hown', (((HB3.out wq hbq).alloc hzq _).grown hgrow5 (by simp; omega) (fun k e => (hrowq.lt k e).1))⟩, rfl⟩)
       case measure => simp [intOf]; omega
    ·have hme : m = evs.length := by omega
     have HRW := Lib.hid hrow
     subst hme
     obtain ⟨⟨va, vn, vc⟩, hv2, hi2⟩ := iD .i64 (by have := gY evs A evs.length; omega) hrow
     dsimp only at hv2
     subst hv2
     clear hrow HRW
     have HB5 : Hid (∀ W, Below wr.heap.size wr W → Below w.heap.size w W ∧ Below wc.heap.size wc W) := Lib.hid (fun W h => ⟨(HBW.out.trans (hb2.mono (by have := HBW.out.size; omega))).trans (h.mono (by have := HBW.out.size; omega)), (hbr.trans (hb2.mono hzr)).trans (h.mono (by omega))⟩)
     by_cases hl0 : l.length = 0
     ·have F : Hid (res = false) := Lib.hid (by rw [← RES.out]; exact aN _ _ _ _ hlt (by rw [RK.out]; simp [hl0]))
      have g1 : ((l.length : Int) == 0) = true := by simp [hl0]
      have g2 : (l.length == 0) = true := by simp [hl0]
      go_wp2
      go_ret
      exact ⟨vC F.out.symm, (HB5.out _ (Below.refl _ _)).1⟩
     have g1 : ((l.length : Int) == 0) = false := beq_eq_false_iff_ne.2 (by omega)
     have g2 : (l.length == 0) = false := beq_eq_false_iff_ne.2 (by omega)
     have gpos : 0 < l.length := by omega
     obtain ⟨lb, lo, rfl, hlb, hlc⟩ : ∃ lb lo, ra = some ⟨lb, lo, none⟩ ∧ lb < w.heap.size ∧ ∀ j, j < l.length → w.cell? ⟨lb, lo + j, none⟩ = some (.int .i64 (l.getD j 0)) := LI.out.2.2.resolve_left (by intro h; rw [h] at hl0; simp at hl0)
     obtain ⟨z, hz⟩ : ∃ z, l.getD 0 0 = z := ⟨_, rfl⟩
     have cz : wr.cell? ⟨lb, lo, none⟩ = some (.int .i64 z) := by rw [(HB5.out wr (Below.refl _ _)).1.cell (p := ⟨lb, lo, none⟩) hlb, ← hz]; exact hlc 0 gpos
     have HZ := Lib.hid hz
     clear hz hlc
     obtain ⟨bz, hbz⟩ : ∃ bool_ : Bool, (z != (k : Int)) = bool_ := ⟨_, rfl⟩
     have BZ := Lib.hid hbz
     cases bz with
     | true =>
      have F : Hid (res = false) := Lib.hid (by rw [← RES.out]; exact aN _ _ _ _ hlt (by rw [RK.out, HZ.out, BZ.out]; simp))
      go_wp2
      go_ret
      exact ⟨vC F.out.symm, (HB5.out _ (Below.refl _ _)).1⟩
     | false =>
      have hli5 : IntsIn .i64 wr.heap.size wr ⟨some ⟨lb, lo, none⟩, l.length, rc⟩ l := (LI.out.below (HB5.out wr (Below.refl _ _)).1).mono (by have := (HB5.out wr (Below.refl _ _)).1.size; omega)
      have ctr : Hid (∀ W5, W5 = wr.alloc (.cells #[.slice (some ⟨lb, lo, none⟩) l.length rc] 23) → Calls Tryz.prog 48 #[.func (.func 105) #[] #[.pointer (some ⟨wr.heap.size, 0, none⟩)]] W5 fun e w' =>
        ∃ s' : Sl, e = .returned (.slice s'.a s'.n s'.c) ∧ IntsIn .i64 w'.heap.size w' s' (sortI l) ∧ Below W5.heap.size W5 w') := Lib.hid (fun W5 h => by
       subst h
       exact sortedVals_c wr.heap.size ⟨some ⟨lb, lo, none⟩, l.length, rc⟩ l _ (by simp) (by simp) ((hli5.below ((Below.refl _ _).alloc (Nat.le_refl _) _)).mono (by simp)) hl65)
      obtain ⟨be, hbe⟩ : ∃ bool_ : Bool, (sortI l == wantTo evs A evs.length) = bool_ := ⟨_, rfl⟩
      have BE := Lib.hid hbe
      have EQ : Hid (∀ (s' : Sl) (W5 W6 : World), W5 = wr.alloc (.cells #[.slice (some ⟨lb, lo, none⟩) l.length rc] 23) → Below W5.heap.size W5 W6 → IntsIn .i64 W6.heap.size W6 s' (sortI l) → Calls Tryz.prog 80 #[.slice s'.a s'.n s'.c, .slice va vn vc] W6 fun e w' => e = .returned (.bool be) ∧ Below wr.heap.size wr w') := Lib.hid (fun s' W5 W6 h5 hb6 hi6 => by
       subst h5
       have hb7 : Below wr.heap.size wr W6 := ((Below.refl wr.heap.size wr).alloc (Nat.le_refl _) _).trans (hb6.mono (by simp))
       refine (equal_c s' ⟨va, vn, vc⟩ (sortI l) (wantTo evs A evs.length) _ _ W6 hi6 (hi2.below hb7)).mono ?_
       rintro e w' ⟨rfl, q, rfl⟩
       exact ⟨by rw [BE.out], hb7.trans ⟨rfl, rfl, rfl, Nat.le_refl _, fun _ _ => rfl⟩⟩)
      clear hli5 hi2 hbe
      cases be with
      | true =>
       have D : Hid (rowOk evs ad k (rows.getD k default).2 = true) := Lib.hid (by rw [RK.out, HZ.out, BZ.out, BE.out, g2]; rfl)
       go_wp2_with (first
        | (go_at_call 81; refine (qG _ _ _ _).mono ?_; rintro e w5 ⟨rfl, rfl⟩)
        | (go_at_call 48; refine (ctr.out _ rfl).mono ?_; rintro e w6 ⟨⟨sa6, sn6, sc6⟩, rfl, hi6, hb6⟩)
        | (go_at_call 80; refine (EQ.out ⟨sa6, sn6, sc6⟩ _ _ rfl hb6 hi6).mono ?_; rintro e w7 ⟨rfl, hb7⟩))
       go_roundw
       case rel => first | exact ⟨k + 1, by omega, by go_num, by rw [gF, HTO.out, D.out]; rfl, (HB5.out _ hb7).2⟩ | ((repeat apply Exists.intro); exact ⟨⟨k + 1, by omega, by go_num, by rw [gF, HTO.out, D.out]; rfl, (HB5.out _ hb7).2⟩, rfl⟩)
       case measure => simp [intOf]; omega
      | false =>
       have F : Hid (res = false) := Lib.hid (by rw [← RES.out]; exact aN _ _ _ _ hlt (by rw [RK.out, BE.out]; simp))
       go_wp2_with (first
        | (go_at_call 81; refine (qG _ _ _ _).mono ?_; rintro e w5 ⟨rfl, rfl⟩)
        | (go_at_call 48; refine (ctr.out _ rfl).mono ?_; rintro e w6 ⟨⟨sa6, sn6, sc6⟩, rfl, hi6, hb6⟩)
        | (go_at_call 80; refine (EQ.out ⟨sa6, sn6, sc6⟩ _ _ rfl hb6 hi6).mono ?_; rintro e w7 ⟨rfl, hb7⟩))
       go_ret
       exact ⟨vC F.out.symm, (HB5.out _ hb7).1⟩
  ·have hke : k = rows.length := by omega
   have F : Hid (res = true) := Lib.hid (by rw [← RES.out]; unfold orderB; rw [← hke, HTO.out]; have := HLEN.out; simp; omega)
   clear hke
   go_wp2
   go_ret
   exact ⟨vC F.out.symm, hb.trans (hbr.mono (by omega))⟩
theorem order_c (x : Ex) (s : Sl) (ad : List Int) (w : World) (hx : x.inW w.heap.size w) (hl : IntsIn .u32 w.heap.size w s ad) (h64 : x.evs.length ≤ 64) (hrows : ∀ r ∈ x.order, r.2.length ≤ 65536) :
  Calls Tryz.prog 54 #[x.agg, .slice s.a s.n s.c] w fun o w' => o = .returned (.bool (orderB x.evs ad x.order)) ∧ Below w.heap.size w w' := by
 by_cases h : x.order.length = ad.length
 ·exact order_eq_c x s ad w hx hl h h64 hrows
 ·refine (order_len_c x s ad w hx hl h).mono ?_
  rintro o w' ⟨rfl, hb⟩
  exact ⟨by unfold orderB; simp [h], hb⟩
def evPre (es : List Ev) (n : Nat) : Bool :=
 (es.getD n default).bareB && ((es.getD n default).addr % 4 == 0) && hangsB es n (es.getD n default).addrs && hangsB es n (es.getD n default).datas && hangsB es n (es.getD n default).ctrls
def evOk (es : List Ev) (ad : List Int) (n : Nat) : Bool :=
 evPre es n && (if n < ad.length then (es.getD n default).kind == 5 && ((es.getD n default).addr == ad.getD n 0)
  else (es.getD n default).kind != 5 && decide (0 ≤ (es.getD n default).hart) && decide ((es.getD n default).hart < 4) && ((n : Int) == ad.length || decide ((es.getD (n - 1) default).hart ≤ (es.getD n default).hart)))
set_option maxRecDepth 100000 in
set_option maxHeartbeats 1000000 in
theorem event_c (x : Ex) (n : Nat) (s : Sl) (ad : List Int) (w : World) (hx : x.inW w.heap.size w) (hl : IntsIn .u32 w.heap.size w s ad) (hn : n < x.evs.length) :
  Calls Tryz.prog 52 #[x.agg, .int .i64 n, .int .i64 ad.length, .slice s.a s.n s.c] w fun o w' => o = .returned (.bool (evOk x.evs ad n)) ∧ Below w.heap.size w w' := by
 have HX := Lib.hid hx
 have HXE := Lib.hid hx.1
 have hsm : x.evs.length ≤ 1152921504606846976 := hx.1.2.1
 obtain ⟨E, hE⟩ : ∃ E, x.evs.getD n default = E := ⟨_, rfl⟩
 have hmem : E ∈ x.evs := by rw [← hE, List.getD_eq_getElem?_getD, List.getElem?_eq_getElem hn]; simp
 have hok := hx.1.2.2.1 E hmem
 have HOK := Lib.hid hok
 have h4 : ∃ b off, x.es.a = some ⟨b, off, none⟩ ∧ b < w.heap.size ∧ ∀ k, k < x.evs.length → EvCells w b (off + k * 13) (x.evs.getD k default) := by
  rcases hx.1.2.2.2 with h4 | h4
  ·rw [h4] at hn; simp at hn
  ·exact h4
 obtain ⟨b, off, hea, hbB, hcell⟩ := h4
 have hen := hx.1.1
 have hcn := hcell n hn
 rw [hE] at hcn
 have HC := Lib.hid hcell
 clear hcell hx hok hmem
 obtain ⟨res, hres⟩ : ∃ z : Bool, evOk x.evs ad n = z := ⟨_, rfl⟩
 rw [hres]
 have RES := Lib.hid hres
 have HE := Lib.hid hE
 clear hres hE
 obtain ⟨g1, g2, g3⟩ := hl
 have XA : Hid (x.agg = .agg #[.slice (some ⟨b, off, none⟩) x.evs.length x.es.c, .slice x.fs.a x.fs.n x.fs.c, .slice x.os.a x.os.n x.os.c]) := Lib.hid (by unfold Ex.agg; rw [hea, hen])
 rw [XA.out]
 clear hea hen
 unfold EvCells at hcn
 obtain ⟨c1, c2, c3, c4, c5, c6, c7, c8, c9, c10, c11, c12, c13⟩ := hcn
 go_enter Tryz.func52, Tryz.ntmps52
 go_upto_region 1 with (fail)
 go_cut [0, 9] (fun s0 s9 wx => s9 = .pointer (some ⟨w.heap.size + 1, 0, none⟩) ∧ Below w.heap.size w wx ∧ w.heap.size + 1 < wx.heap.size ∧ wx.cell? ⟨w.heap.size, 0, none⟩ = some (.slice (some ⟨b, off, none⟩) x.evs.length x.es.c) ∧
  wx.cell? ⟨w.heap.size, 1, none⟩ = some (.slice x.fs.a x.fs.n x.fs.c) ∧ wx.cell? ⟨w.heap.size, 2, none⟩ = some (.slice x.os.a x.os.n x.os.c) ∧ wx.cell? ⟨w.heap.size + 1, 0, none⟩ = some (Value.int IntKind.i64 E.hart) ∧ wx.cell? ⟨w.heap.size + 1, 1, none⟩ = some (Value.int IntKind.i64 E.kind) ∧ wx.cell? ⟨w.heap.size + 1, 2, none⟩ = some (Value.int IntKind.u32 E.addr) ∧ wx.cell? ⟨w.heap.size + 1, 3, none⟩ = some (Value.int IntKind.u32 E.val) ∧ wx.cell? ⟨w.heap.size + 1, 4, none⟩ = some (Value.int IntKind.u32 E.rval) ∧ wx.cell? ⟨w.heap.size + 1, 5, none⟩ = some (Value.bool E.aq) ∧ wx.cell? ⟨w.heap.size + 1, 6, none⟩ = some (Value.bool E.rl) ∧ wx.cell? ⟨w.heap.size + 1, 7, none⟩ = some (Value.int IntKind.i64 E.pred) ∧ wx.cell? ⟨w.heap.size + 1, 8, none⟩ = some (Value.int IntKind.i64 E.succ) ∧ wx.cell? ⟨w.heap.size + 1, 9, none⟩ = some (Value.bool E.rsv) ∧ wx.cell? ⟨w.heap.size + 1, 10, none⟩ = some (Value.slice E.av.a E.av.n E.av.c) ∧ wx.cell? ⟨w.heap.size + 1, 11, none⟩ = some (Value.slice E.dv.a E.dv.n E.dv.c) ∧ wx.cell? ⟨w.heap.size + 1, 12, none⟩ = some (Value.slice E.cv.a E.cv.n E.cv.c))
 case first =>
  go_wp2_with fail
  go_meet
  refine ⟨rfl, ((Below.refl _ _).alloc (Nat.le_refl _) _).alloc (by simp) _, by simp, by simp, by simp, by simp, ?_⟩
  simp
 case rest =>
 obtain ⟨rfl, hb, hsz, b0, b1, b2, q0, q1, q2, q3, q4, q5, q6, q7, q8, q9, q10, q11, q12⟩ := hcut
 clear c1 c2 c3 c4 c5 c6 c7 c8 c9 c10 c11 c12 c13
 have hB0 : w.heap.size < wc.heap.size := by omega
 have HS := Lib.hid HOK.out.small
 have HW : Hid (∀ W, Below wc.heap.size wc W → Below w.heap.size w W ∧ w.heap.size ≤ W.heap.size) := Lib.hid (fun W h => ⟨hb.trans (h.mono (by omega)), by have := h.size; omega⟩)
 have CH : Hid (∀ (sl : Sl) (l : List Int), IntsIn .i64 w.heap.size w sl l → ∀ W, Below wc.heap.size wc W → Calls Tryz.prog 77 #[.agg #[.slice (some ⟨b, off, none⟩) x.evs.length x.es.c, .slice x.fs.a x.fs.n x.fs.c, .slice x.os.a x.os.n x.os.c], .int .i64 n, .slice sl.a sl.n sl.c] W
   fun o w' => o = .returned (.bool (hangsB x.evs n l)) ∧ Below W.heap.size W w') := Lib.hid (fun sl l hsl W hW => by
  rw [← XA.out]
  exact hangs_c x n sl l W ((HXE.out.below (HW.out W hW).1).mono (HW.out W hW).2) ((hsl.below (HW.out W hW).1).mono (HW.out W hW).2) hn)
 have RV : Hid (res = (E.bareB && (E.addr % 4 == 0) && hangsB x.evs n E.addrs && hangsB x.evs n E.datas && hangsB x.evs n E.ctrls && (if n < ad.length then E.kind == 5 && (E.addr == ad.getD n 0)
  else E.kind != 5 && decide (0 ≤ E.hart) && decide (E.hart < 4) && ((n : Int) == ad.length || decide ((x.evs.getD (n - 1) default).hart ≤ E.hart))))) := Lib.hid (by rw [← RES.out]; unfold evOk evPre; rw [HE.out])
 go_wp2_with fail
 refine (bare_c E HS.out _).mono ?_; rintro o w1 ⟨rfl, hb1⟩
 generalize hbb : E.bareB = bb at *
 have BB := Lib.hid hbb
 clear hbb
 have r1 : ∀ b o, b < (wc).heap.size → (w1).cell? ⟨b, o, none⟩ = (wc).cell? ⟨b, o, none⟩ := fun b o hh => (hb1).cell (p := ⟨b, o, none⟩) hh
 cases bb with
 | false =>
  go_wp2
  go_ret
  exact ⟨vC (by rw [RV.out]; simp), hb.trans (hb1.mono (by omega))⟩
 | true =>
 have eAd := HOK.out.2.2.2.2.2.1.1
 have eA := Lib.hid HOK.out.1
 have eD := Lib.hid HOK.out.2.1
 have eC := Lib.hid HOK.out.2.2.1
 obtain ⟨ra, hra⟩ : ∃ bool_ : Bool, (E.addr % 4 != 0) = bool_ := ⟨_, rfl⟩
 have RA : Hid ((E.addr % 4 == 0) = !ra) := Lib.hid (by rw [← hra]; simp [bne])
 have tz : E.addr.tmod 4 = E.addr % 4 := Int.tmod_eq_emod_of_nonneg eAd
 cases ra with
 | true =>
  go_wp2
  go_ret
  exact ⟨vC (by rw [RV.out, RA.out]; simp), hb.trans (hb1.mono (by omega))⟩
 | false =>
 go_wp2_with fail
 refine (CH.out E.av _ eA.out w1 hb1).mono ?_; rintro o w2 ⟨rfl, hb2⟩
 have hc2 := hb1.trans (hb2.mono hb1.size)
 have r2 : ∀ b o, b < (wc).heap.size → (w2).cell? ⟨b, o, none⟩ = (wc).cell? ⟨b, o, none⟩ := fun b o hh => (hc2).cell (p := ⟨b, o, none⟩) hh
 generalize hhA : hangsB x.evs n E.addrs = hA at *
 clear hhA
 cases hA with
 | false =>
  go_wp2
  go_ret
  exact ⟨vC (by rw [RV.out]; simp), hb.trans (hc2.mono (by omega))⟩
 | true =>
 go_wp2_with fail
 refine (CH.out E.dv _ eD.out w2 hc2).mono ?_; rintro o w3 ⟨rfl, hb3⟩
 have hc3 := hc2.trans (hb3.mono hc2.size)
 clear r1 r2
 have r3 : ∀ b o, b < (wc).heap.size → (w3).cell? ⟨b, o, none⟩ = (wc).cell? ⟨b, o, none⟩ := fun b o hh => (hc3).cell (p := ⟨b, o, none⟩) hh
 generalize hhD : hangsB x.evs n E.datas = hD at *
 clear hhD
 cases hD with
 | false =>
  go_wp2
  go_ret
  exact ⟨vC (by rw [RV.out]; simp), hb.trans (hc3.mono (by omega))⟩
 | true =>
 go_wp2_with fail
 refine (CH.out E.cv _ eC.out w3 hc3).mono ?_; rintro o w4 ⟨rfl, hb4⟩
 have hc4 := hc3.trans (hb4.mono hc3.size)
 clear r3
 generalize hhC : hangsB x.evs n E.ctrls = hC at *
 clear hhC
 cases hC with
 | false =>
  have r4 : ∀ b o, b < (wc).heap.size → (w4).cell? ⟨b, o, none⟩ = (wc).cell? ⟨b, o, none⟩ := fun b o hh => (hc4).cell (p := ⟨b, o, none⟩) hh
  go_wp2
  go_ret
  exact ⟨vC (by rw [RV.out]; simp), hb.trans (hc4.mono (by omega))⟩
 | true =>
 have HB4 := (HW.out w4 hc4)
 have o0 : ∀ p, (vR w4 p).cell? ⟨w.heap.size + 1, 0, none⟩ = some (.int .i64 E.hart) := fun p => uR w4 p (by have := hc4.size; omega) ((hc4.cell (p := ⟨w.heap.size + 1, 0, none⟩) hsz).trans q0)
 have o1 : ∀ p, (vR w4 p).cell? ⟨w.heap.size + 1, 1, none⟩ = some (.int .i64 E.kind) := fun p => uR w4 p (by have := hc4.size; omega) ((hc4.cell (p := ⟨w.heap.size + 1, 1, none⟩) hsz).trans q1)
 have o2 : ∀ p, (vR w4 p).cell? ⟨w.heap.size + 1, 2, none⟩ = some (.int .u32 E.addr) := fun p => uR w4 p (by have := hc4.size; omega) ((hc4.cell (p := ⟨w.heap.size + 1, 2, none⟩) hsz).trans q2)
 have o3 : ∀ p, (vR w4 p).cell? ⟨w.heap.size, 0, none⟩ = some (.slice (some ⟨b, off, none⟩) x.evs.length x.es.c) := fun p => uR w4 p (by have := hc4.size; omega) ((hc4.cell (p := ⟨w.heap.size, 0, none⟩) hB0).trans b0)
 have HBW := Lib.hid (hb.trans (hc4.mono (Nat.le_of_lt hB0)))
 have G2 : w4.heap.size ≥ w.heap.size := HB4.2
 by_cases hlt : n < ad.length
 ·obtain ⟨lb, lo, hla, hlB, hlc⟩ : ∃ lb lo, s.a = some ⟨lb, lo, none⟩ ∧ lb < w.heap.size ∧ ∀ k, k < ad.length → w.cell? ⟨lb, lo + k, none⟩ = some (.int .u32 (ad.getD k 0)) := by
   rcases g3 with g3 | g3
   ·rw [g3] at hlt; simp at hlt
   ·exact g3
  clear g3
  obtain ⟨av, hav⟩ : ∃ av, ad.getD n 0 = av := ⟨_, rfl⟩
  have o4 : ∀ p, (vR w4 p).cell? ⟨lb, lo + n, none⟩ = some (.int .u32 av) := fun p => uR w4 p (by omega) ((HB4.1.cell (p := ⟨lb, lo + n, none⟩) hlB).trans (by rw [hlc n hlt, hav]))
  have HAV := Lib.hid hav
  clear hav hlc
  obtain ⟨k5, hk5⟩ : ∃ bool_ : Bool, (E.kind == 5) = bool_ := ⟨_, rfl⟩
  obtain ⟨ae, hae⟩ : ∃ bool_ : Bool, (E.addr == av) = bool_ := ⟨_, rfl⟩
  have RV2 : Hid (res = (k5 && ae)) := Lib.hid (by rw [RV.out, RA.out, if_pos hlt, HAV.out, hk5, hae]; simp)
  have K5 := Lib.hid hk5
  have AE := Lib.hid hae
  cases k5 with
  | false =>
   go_wp2
   refine uT (by kernel_rfl) (by kernel_rfl) ?_
   repeat (go_big_quiet_step (fail))
   refine wpQuiet_nil ?_
   intro wq hwq
   obtain ⟨pq, hwq2⟩ := hwq
   have hbq : Below (w4).heap.size (w4) wq := by rw [hwq2]; exact vF (w4) pq
   clear hwq2
   go_wp2
   go_ret
   exact ⟨vC (by rw [RV2.out]; simp), HBW.out.trans (hbq.mono G2)⟩
  | true =>
   go_wp2
   refine uT (by kernel_rfl) (by kernel_rfl) ?_
   repeat (go_big_quiet_step (fail))
   refine wpQuiet_nil ?_
   intro wq hwq
   obtain ⟨pq, hwq2⟩ := hwq
   have hbq : Below (w4).heap.size (w4) wq := by rw [hwq2]; exact vF (w4) pq
   clear hwq2
   go_wp2
   go_ret
   exact ⟨vC (by rw [RV2.out]; simp), HBW.out.trans (hbq.mono G2)⟩
 ·clear g3
  obtain ⟨ln, hln⟩ : ∃ ln, ad.length = ln := ⟨_, rfl⟩
  rw [hln] at hlt g2 ⊢
  have HLN := Lib.hid hln
  clear hln
  obtain ⟨k6, hk6⟩ : ∃ bool_ : Bool, (E.kind != 5) = bool_ := ⟨_, rfl⟩
  obtain ⟨h0, hh0⟩ : ∃ bool_ : Bool, decide (0 ≤ E.hart) = bool_ := ⟨_, rfl⟩
  obtain ⟨h4, hh4⟩ : ∃ bool_ : Bool, decide (E.hart < 4) = bool_ := ⟨_, rfl⟩
  have RV1 : Hid (res = (k6 && h0 && h4 && ((n : Int) == ln || decide ((x.evs.getD (n - 1) default).hart ≤ E.hart)))) := Lib.hid (by rw [RV.out, RA.out, HLN.out, if_neg hlt, hk6, hh0, hh4]; simp)
  cases k6 with
  | false =>
   go_wp2
   refine uT (by kernel_rfl) (by kernel_rfl) ?_
   repeat (go_big_quiet_step (fail))
   refine wpQuiet_nil ?_
   intro wq hwq
   obtain ⟨pq, hwq2⟩ := hwq
   have hbq : Below (w4).heap.size (w4) wq := by rw [hwq2]; exact vF (w4) pq
   clear hwq2
   go_wp2
   go_ret
   exact ⟨vC (by rw [RV1.out]; simp), HBW.out.trans (hbq.mono G2)⟩
  | true =>
  cases h0 with
  | false =>
   go_wp2
   refine uT (by kernel_rfl) (by kernel_rfl) ?_
   repeat (go_big_quiet_step (fail))
   refine wpQuiet_nil ?_
   intro wq hwq
   obtain ⟨pq, hwq2⟩ := hwq
   have hbq : Below (w4).heap.size (w4) wq := by rw [hwq2]; exact vF (w4) pq
   clear hwq2
   go_wp2
   go_ret
   exact ⟨vC (by rw [RV1.out]; simp), HBW.out.trans (hbq.mono G2)⟩
  | true =>
  cases h4 with
  | false =>
   go_wp2
   refine uT (by kernel_rfl) (by kernel_rfl) ?_
   repeat (go_big_quiet_step (fail))
   refine wpQuiet_nil ?_
   intro wq hwq
   obtain ⟨pq, hwq2⟩ := hwq
   have hbq : Below (w4).heap.size (w4) wq := by rw [hwq2]; exact vF (w4) pq
   clear hwq2
   go_wp2
   go_ret
   exact ⟨vC (by rw [RV1.out]; simp), HBW.out.trans (hbq.mono G2)⟩
  | true =>
  by_cases heq : n = ln
  ·have F : Hid (res = true) := Lib.hid (by rw [RV1.out, heq]; simp)
   subst heq
   go_wp2
   refine uT (by kernel_rfl) (by kernel_rfl) ?_
   repeat (go_big_quiet_step (fail))
   refine wpQuiet_nil ?_
   intro wq hwq
   obtain ⟨pq, hwq2⟩ := hwq
   have hbq : Below (w4).heap.size (w4) wq := by rw [hwq2]; exact vF (w4) pq
   clear hwq2
   go_wp2
   go_ret
   exact ⟨vC (by rw [F.out]), HBW.out.trans (hbq.mono G2)⟩
  ·have hn1 : n - 1 < x.evs.length := by omega
   have hn0 : ln < n := by omega
   have hne : ((n : Int) == (ln : Int)) = false := by simp; omega
   have hne2 : (n == ln) = false := by simpa using heq
   obtain ⟨ph, hph⟩ : ∃ ph, (x.evs.getD (n - 1) default).hart = ph := ⟨_, rfl⟩
   have o5 : ∀ p, (vR w4 p).cell? ⟨b, off + (n - 1) * 13, none⟩ = some (.int .i64 ph) := fun p => uR w4 p (by omega) ((HB4.1.cell (p := ⟨b, _, none⟩) hbB).trans (by rw [(HC.out (n - 1) hn1).1, hph]))
   have HPH := Lib.hid hph
   clear hph heq
   go_wp2
   refine uT (by kernel_rfl) (by kernel_rfl) ?_
   repeat (go_big_quiet_step (fail))
   refine wpQuiet_nil ?_
   intro wq hwq
   obtain ⟨pq, hwq2⟩ := hwq
   have hbq : Below (w4).heap.size (w4) wq := by rw [hwq2]; exact vF (w4) pq
   clear hwq2
   go_wp2
   go_ret
   exact ⟨vC (by rw [RV1.out, HPH.out, hne]; simp), HBW.out.trans (hbq.mono G2)⟩
def srcOk (es : List Ev) (e : Ev) (f : Int) : Bool :=
 (es.getD f.toNat default).stB && !((es.getD f.toNat default).addr != e.addr) && !((es.getD f.toNat default).val != e.rval)
def fromOk (es : List Ev) (fs : List Int) (k : Nat) : Bool :=
 (!(es.getD k default).ldB && (fs.getD k 0 == -1)) ||
 ((es.getD k default).ldB && !(fs.getD k 0 == (k : Int)) && !(decide (fs.getD k 0 < 0)) && !(decide ((es.length : Int) ≤ fs.getD k 0)) && srcOk es (es.getD k default) (fs.getD k 0))
def fromTo (es : List Ev) (fs : List Int) (k : Nat) : Bool := (List.range k).all (fromOk es fs)
def fromB (es : List Ev) (fs : List Int) : Bool := decide (fs.length = es.length) && fromTo es fs fs.length
theorem yA (es : List Ev) (fs : List Int) (k : Nat) : fromTo es fs (k + 1) = (fromTo es fs k && fromOk es fs k) := by
 simp [fromTo, List.range_succ]
theorem wL (es : List Ev) (fs : List Int) (k : Nat) (hk : k < fs.length) (h : fromOk es fs k = false) : fromB es fs = false := by
 have : fromTo es fs fs.length = false := by
  unfold fromTo
  rw [List.all_eq_false]
  exact ⟨k, by simpa using hk, by simp [h]⟩
 unfold fromB; rw [this]; simp
set_option maxRecDepth 100000 in
set_option maxHeartbeats 1000000 in
theorem from_len_c (x : Ex) (w : World) (hx : x.inW w.heap.size w) (hlen : x.from_.length ≠ x.evs.length) :
  Calls Tryz.prog 53 #[x.agg] w fun o w' => o = .returned (.bool false) ∧ Below w.heap.size w w' := by
 obtain ⟨en, esm, _⟩ := hx.1
 obtain ⟨fn, fsm, _⟩ := hx.2.1
 have XA : Hid (x.agg = .agg #[.slice x.es.a x.evs.length x.es.c, .slice x.fs.a x.from_.length x.fs.c, .slice x.os.a x.os.n x.os.c]) := Lib.hid (by unfold Ex.agg; rw [en, fn])
 rw [XA.out]
 clear en fn hx
 have hl1 : ((x.from_.length : Int) != (x.evs.length : Int)) = true := by simp; omega
 have hl2 : (x.from_.length != x.evs.length) = true := by simp; omega
 clear hlen
 go_enter Tryz.func53, Tryz.ntmps53
 go_wp2
 go_ret
 exact ⟨rfl, (Below.refl _ _).alloc (Nat.le_refl _) _⟩
set_option maxRecDepth 100000 in
set_option maxHeartbeats 1000000 in
theorem from_none_c (x : Ex) (w : World) (hx : x.inW w.heap.size w) (h0 : x.from_ = []) (h1 : x.evs = []) :
  Calls Tryz.prog 53 #[x.agg] w fun o w' => o = .returned (.bool true) ∧ Below w.heap.size w w' := by
 obtain ⟨en, _, _⟩ := hx.1
 obtain ⟨fn, _, _⟩ := hx.2.1
 have XA : Hid (x.agg = .agg #[.slice x.es.a 0 x.es.c, .slice x.fs.a 0 x.fs.c, .slice x.os.a x.os.n x.os.c]) := Lib.hid (by unfold Ex.agg; rw [en, fn, h0, h1]; rfl)
 rw [XA.out]
 clear en fn hx h0 h1
 go_enter Tryz.func53, Tryz.ntmps53
 go_wp2
 go_loopw [16] (fun i wr => i = .int .i64 0 ∧ Below w.heap.size w wr) (fun _ _ => 0)
 case atStart => exact ⟨rfl, (Below.refl _ _).alloc (Nat.le_refl _) _⟩
 case round =>
  obtain ⟨rfl, hbr⟩ := hrel
  go_wp2
  go_ret
  exact ⟨rfl, hbr⟩
set_option maxRecDepth 100000 in
set_option maxHeartbeats 2000000 in
theorem from_some_c (x : Ex) (w : World) (hx : x.inW w.heap.size w) (hlen : x.from_.length = x.evs.length) (hne : x.evs ≠ []) :
  Calls Tryz.prog 53 #[x.agg] w fun o w' => o = .returned (.bool (fromB x.evs x.from_)) ∧ Below w.heap.size w w' := by
 obtain ⟨en, esm, _, ecl⟩ := hx.1
 obtain ⟨fn, fsm, fcl⟩ := hx.2.1
 obtain ⟨res, hres⟩ : ∃ z : Bool, fromB x.evs x.from_ = z := ⟨_, rfl⟩
 rw [hres]
 have RES := Lib.hid hres
 clear hres
 have hne2 : x.from_ ≠ [] := by intro h; rw [h] at hlen; exact hne (List.length_eq_zero_iff.1 hlen.symm)
 obtain ⟨fb, fo, hfa, hfB, hfc⟩ := fcl.resolve_left hne2
 obtain ⟨b, off, hea, hbB, hcl⟩ := ecl.resolve_left hne
 have XA : Hid (x.agg = .agg #[.slice (some ⟨b, off, none⟩) x.evs.length x.es.c, .slice (some ⟨fb, fo, none⟩) x.from_.length x.fs.c, .slice x.os.a x.os.n x.os.c]) := Lib.hid (by unfold Ex.agg; rw [en, fn, hfa, hea])
 rw [XA.out]
 clear en fn hfa hea hne hne2 ecl fcl hx
 have HFC := Lib.hid hfc
 have HCL := Lib.hid hcl
 have HLEN := Lib.hid hlen
 have hl1 : ((x.from_.length : Int) != (x.evs.length : Int)) = false := by simp; omega
 have hl2 : (x.from_.length != x.evs.length) = false := by simp; omega
 have hle : x.from_.length ≤ x.evs.length := by omega
 clear hlen hfc hcl
 go_enter Tryz.func53, Tryz.ntmps53
 go_upto_region 1 with (fail)
 refine wU (X := fun W => Code.wp _ _ _ _ W) ?_
 intro wc hb hsz hcs
 have c0 : wc.cell? ⟨w.heap.size, 0, none⟩ = some (.slice (some ⟨b, off, none⟩) x.evs.length x.es.c) := hcs 0 _ rfl
 have c1 : wc.cell? ⟨w.heap.size, 1, none⟩ = some (.slice (some ⟨fb, fo, none⟩) x.from_.length x.fs.c) := hcs 1 _ rfl
 clear hcs
 go_wp2
 go_loopw [16] (fun i wr => ∃ k : Nat, k ≤ x.from_.length ∧ i = .int .i64 k ∧ fromTo x.evs x.from_ k = true ∧ Below wc.heap.size wc wr) (fun i _ => x.from_.length - (intOf i).toNat)
 case atStart => exact ⟨0, by omega, rfl, rfl, Below.refl _ _⟩
 case round =>
  obtain ⟨k, hk, rfl, hto, hbr⟩ := hrel
  have HTO := Lib.hid hto
  clear hto
  by_cases hlt : k < x.from_.length
  ·have hke : k < x.evs.length := by omega
   have hwr : ∀ b o, b < w.heap.size → wr.cell? ⟨b, o, none⟩ = w.cell? ⟨b, o, none⟩ := fun b o h => (hbr.cell (p := ⟨b, o, none⟩) (by show b < _; omega)).trans (hb.cell (p := ⟨b, o, none⟩) h)
   obtain ⟨f, hf⟩ : ∃ f, x.from_.getD k 0 = f := ⟨_, rfl⟩
   have ck : wr.cell? ⟨fb, fo + k, none⟩ = some (.int .i64 f) := by rw [hwr _ _ hfB, HFC.out k hlt, hf]
   have c0r : wr.cell? ⟨w.heap.size, 0, none⟩ = some (.slice (some ⟨b, off, none⟩) x.evs.length x.es.c) := (hbr.cell (p := ⟨w.heap.size, 0, none⟩) hsz).trans c0
   obtain ⟨E, hE⟩ : ∃ E, x.evs.getD k default = E := ⟨_, rfl⟩
   have hcE := ((HCL.out k hke).below hb hbB).below hbr (show b < wc.heap.size by omega)
   rw [hE] at hcE
   unfold EvCells at hcE
   obtain ⟨q0, q1, q2, q3, q4, q5, q6, q7, q8, q9, q10, q11, q12⟩ := hcE
   have HF := Lib.hid hf
   have HE := Lib.hid hE
   have HWR := Lib.hid hwr
   clear hf hE hwr
   go_upto_region 7 with (fail)
   refine wU (X := fun W => Code.wp _ _ _ _ W) ?_
   intro w1 hb1 hs1 hcs1
   have t0 : (w1).cell? ⟨wr.heap.size, 0, none⟩ = some (Value.int IntKind.i64 E.hart) := hcs1 0 _ rfl
   have t1 : (w1).cell? ⟨wr.heap.size, 1, none⟩ = some (Value.int IntKind.i64 E.kind) := hcs1 1 _ rfl
   have t2 : (w1).cell? ⟨wr.heap.size, 2, none⟩ = some (Value.int IntKind.u32 E.addr) := hcs1 2 _ rfl
   have t3 : (w1).cell? ⟨wr.heap.size, 3, none⟩ = some (Value.int IntKind.u32 E.val) := hcs1 3 _ rfl
   have t4 : (w1).cell? ⟨wr.heap.size, 4, none⟩ = some (Value.int IntKind.u32 E.rval) := hcs1 4 _ rfl
   have t5 : (w1).cell? ⟨wr.heap.size, 5, none⟩ = some (Value.bool E.aq) := hcs1 5 _ rfl
   have t6 : (w1).cell? ⟨wr.heap.size, 6, none⟩ = some (Value.bool E.rl) := hcs1 6 _ rfl
   have t7 : (w1).cell? ⟨wr.heap.size, 7, none⟩ = some (Value.int IntKind.i64 E.pred) := hcs1 7 _ rfl
   have t8 : (w1).cell? ⟨wr.heap.size, 8, none⟩ = some (Value.int IntKind.i64 E.succ) := hcs1 8 _ rfl
   have t9 : (w1).cell? ⟨wr.heap.size, 9, none⟩ = some (Value.bool E.rsv) := hcs1 9 _ rfl
   have t10 : (w1).cell? ⟨wr.heap.size, 10, none⟩ = some (Value.slice E.av.a E.av.n E.av.c) := hcs1 10 _ rfl
   have t11 : (w1).cell? ⟨wr.heap.size, 11, none⟩ = some (Value.slice E.dv.a E.dv.n E.dv.c) := hcs1 11 _ rfl
   have t12 : (w1).cell? ⟨wr.heap.size, 12, none⟩ = some (Value.slice E.cv.a E.cv.n E.cv.c) := hcs1 12 _ rfl
   clear hcs1 q0 q1 q2 q3 q4 q5 q6 q7 q8 q9 q10 q11 q12
   have hz1 := hbr.size
   have d0 : w1.cell? ⟨w.heap.size, 0, none⟩ = some (.slice (some ⟨b, off, none⟩) x.evs.length x.es.c) := (hb1.cell (p := ⟨w.heap.size, 0, none⟩) (by show w.heap.size < _; omega)).trans c0r
   clear c0r ck
   go_wp2_with fail
   refine (gQ E w1).mono ?_; rintro o w2 ⟨rfl, hb2⟩
   have LC := Lib.hid (fun w => gQ E w)
   have hz2 := hb2.size
   have r2 : ∀ b o, b < (w1).heap.size → (w2).cell? ⟨b, o, none⟩ = (w1).cell? ⟨b, o, none⟩ := fun b o hh => (hb2).cell (p := ⟨b, o, none⟩) hh
   have HWB : Hid (∀ W, Below w2.heap.size w2 W → Below w.heap.size w W ∧ Below wc.heap.size wc W) := Lib.hid (fun W h => ⟨hb.trans ((((hbr.mono (by omega)).trans (hb1.mono (by omega))).trans (hb2.mono (by omega))).trans (h.mono (by omega))), ((hbr.trans (hb1.mono (by omega))).trans (hb2.mono (by omega))).trans (h.mono (by omega))⟩)
   have o0 : ∀ p, (vR w2 p).cell? ⟨w.heap.size, 0, none⟩ = some (.slice (some ⟨b, off, none⟩) x.evs.length x.es.c) := fun p => uR w2 p (by omega) ((r2 _ _ (by omega)).trans d0)
   cases hld : E.ldB with
   | false =>
    have LD := Lib.hid hld
    clear hld
    by_cases hf1 : f = -1
    ·subst hf1
     have D : Hid (fromOk x.evs x.from_ k = true) := Lib.hid (by unfold fromOk; rw [HE.out, HF.out, LD.out]; simp)
     go_wp2
     go_roundw
     case rel => first | exact ⟨k + 1, by omega, by go_num, by rw [yA, HTO.out, D.out]; rfl, (HWB.out w2 (Below.refl _ _)).2⟩ | ((repeat apply Exists.intro); exact ⟨⟨k + 1, by omega, by go_num, by rw [yA, HTO.out, D.out]; rfl, (HWB.out w2 (Below.refl _ _)).2⟩, rfl⟩)
     case measure => simp [intOf]; omega
    ·have F : Hid (res = false) := Lib.hid (by rw [← RES.out]; exact wL _ _ _ hlt (by unfold fromOk; rw [HE.out, HF.out, LD.out]; simp [hf1]))
     have hf2 : (f == -1) = false := by simpa using hf1
     clear hf1
     have z0 := (r2 _ _ hs1).trans t0
     have z1 := (r2 _ _ hs1).trans t1
     have z2 := (r2 _ _ hs1).trans t2
     have z3 := (r2 _ _ hs1).trans t3
     have z4 := (r2 _ _ hs1).trans t4
     have z5 := (r2 _ _ hs1).trans t5
     have z6 := (r2 _ _ hs1).trans t6
     have z7 := (r2 _ _ hs1).trans t7
     have z8 := (r2 _ _ hs1).trans t8
     have z9 := (r2 _ _ hs1).trans t9
     have z10 := (r2 _ _ hs1).trans t10
     have z11 := (r2 _ _ hs1).trans t11
     have z12 := (r2 _ _ hs1).trans t12
     have y0 : ∀ p, (vR w2 p).cell? ⟨wr.heap.size, 0, none⟩ = some (Value.int IntKind.i64 E.hart) := fun p => uR w2 p (show wr.heap.size < w2.heap.size by omega) z0
     have y1 : ∀ p, (vR w2 p).cell? ⟨wr.heap.size, 1, none⟩ = some (Value.int IntKind.i64 E.kind) := fun p => uR w2 p (show wr.heap.size < w2.heap.size by omega) z1
     have y2 : ∀ p, (vR w2 p).cell? ⟨wr.heap.size, 2, none⟩ = some (Value.int IntKind.u32 E.addr) := fun p => uR w2 p (show wr.heap.size < w2.heap.size by omega) z2
     have y3 : ∀ p, (vR w2 p).cell? ⟨wr.heap.size, 3, none⟩ = some (Value.int IntKind.u32 E.val) := fun p => uR w2 p (show wr.heap.size < w2.heap.size by omega) z3
     have y4 : ∀ p, (vR w2 p).cell? ⟨wr.heap.size, 4, none⟩ = some (Value.int IntKind.u32 E.rval) := fun p => uR w2 p (show wr.heap.size < w2.heap.size by omega) z4
     have y5 : ∀ p, (vR w2 p).cell? ⟨wr.heap.size, 5, none⟩ = some (Value.bool E.aq) := fun p => uR w2 p (show wr.heap.size < w2.heap.size by omega) z5
     have y6 : ∀ p, (vR w2 p).cell? ⟨wr.heap.size, 6, none⟩ = some (Value.bool E.rl) := fun p => uR w2 p (show wr.heap.size < w2.heap.size by omega) z6
     have y7 : ∀ p, (vR w2 p).cell? ⟨wr.heap.size, 7, none⟩ = some (Value.int IntKind.i64 E.pred) := fun p => uR w2 p (show wr.heap.size < w2.heap.size by omega) z7
     have y8 : ∀ p, (vR w2 p).cell? ⟨wr.heap.size, 8, none⟩ = some (Value.int IntKind.i64 E.succ) := fun p => uR w2 p (show wr.heap.size < w2.heap.size by omega) z8
     have y9 : ∀ p, (vR w2 p).cell? ⟨wr.heap.size, 9, none⟩ = some (Value.bool E.rsv) := fun p => uR w2 p (show wr.heap.size < w2.heap.size by omega) z9
     have y10 : ∀ p, (vR w2 p).cell? ⟨wr.heap.size, 10, none⟩ = some (Value.slice E.av.a E.av.n E.av.c) := fun p => uR w2 p (show wr.heap.size < w2.heap.size by omega) z10
     have y11 : ∀ p, (vR w2 p).cell? ⟨wr.heap.size, 11, none⟩ = some (Value.slice E.dv.a E.dv.n E.dv.c) := fun p => uR w2 p (show wr.heap.size < w2.heap.size by omega) z11
     have y12 : ∀ p, (vR w2 p).cell? ⟨wr.heap.size, 12, none⟩ = some (Value.slice E.cv.a E.cv.n E.cv.c) := fun p => uR w2 p (show wr.heap.size < w2.heap.size by omega) z12
     clear z0 z1 z2 z3 z4 z5 z6 z7 z8 z9 z10 z11 z12
     go_wp2
     refine uT (by kernel_rfl) (by kernel_rfl) ?_
     repeat (go_big_quiet_step (((go_at_call 78; refine vV (?_ : Calls _ _ _ _ fun e w' => e = .returned (.bool false) ∧ _); have t := LC.out; rw [LD.out] at t; exact t _))))
     refine wpQuiet_nil ?_
     intro wq hwq
     obtain ⟨pq, hwq2⟩ := hwq
     have hbq : Below (w2).heap.size (w2) wq := by rw [hwq2]; exact vF (w2) pq
     clear hwq2
     go_wp2
     go_ret
     exact ⟨vC F.out.symm, (HWB.out wq hbq).1⟩
   | true =>
    have LD := Lib.hid hld
    clear hld
    have z0 := (r2 _ _ hs1).trans t0
    have z1 := (r2 _ _ hs1).trans t1
    have z2 := (r2 _ _ hs1).trans t2
    have z3 := (r2 _ _ hs1).trans t3
    have z4 := (r2 _ _ hs1).trans t4
    have z5 := (r2 _ _ hs1).trans t5
    have z6 := (r2 _ _ hs1).trans t6
    have z7 := (r2 _ _ hs1).trans t7
    have z8 := (r2 _ _ hs1).trans t8
    have z9 := (r2 _ _ hs1).trans t9
    have z10 := (r2 _ _ hs1).trans t10
    have z11 := (r2 _ _ hs1).trans t11
    have z12 := (r2 _ _ hs1).trans t12
    have y0 : ∀ p, (vR w2 p).cell? ⟨wr.heap.size, 0, none⟩ = some (Value.int IntKind.i64 E.hart) := fun p => uR w2 p (show wr.heap.size < w2.heap.size by omega) z0
    have y1 : ∀ p, (vR w2 p).cell? ⟨wr.heap.size, 1, none⟩ = some (Value.int IntKind.i64 E.kind) := fun p => uR w2 p (show wr.heap.size < w2.heap.size by omega) z1
    have y2 : ∀ p, (vR w2 p).cell? ⟨wr.heap.size, 2, none⟩ = some (Value.int IntKind.u32 E.addr) := fun p => uR w2 p (show wr.heap.size < w2.heap.size by omega) z2
    have y3 : ∀ p, (vR w2 p).cell? ⟨wr.heap.size, 3, none⟩ = some (Value.int IntKind.u32 E.val) := fun p => uR w2 p (show wr.heap.size < w2.heap.size by omega) z3
    have y4 : ∀ p, (vR w2 p).cell? ⟨wr.heap.size, 4, none⟩ = some (Value.int IntKind.u32 E.rval) := fun p => uR w2 p (show wr.heap.size < w2.heap.size by omega) z4
    have y5 : ∀ p, (vR w2 p).cell? ⟨wr.heap.size, 5, none⟩ = some (Value.bool E.aq) := fun p => uR w2 p (show wr.heap.size < w2.heap.size by omega) z5
    have y6 : ∀ p, (vR w2 p).cell? ⟨wr.heap.size, 6, none⟩ = some (Value.bool E.rl) := fun p => uR w2 p (show wr.heap.size < w2.heap.size by omega) z6
    have y7 : ∀ p, (vR w2 p).cell? ⟨wr.heap.size, 7, none⟩ = some (Value.int IntKind.i64 E.pred) := fun p => uR w2 p (show wr.heap.size < w2.heap.size by omega) z7
    have y8 : ∀ p, (vR w2 p).cell? ⟨wr.heap.size, 8, none⟩ = some (Value.int IntKind.i64 E.succ) := fun p => uR w2 p (show wr.heap.size < w2.heap.size by omega) z8
    have y9 : ∀ p, (vR w2 p).cell? ⟨wr.heap.size, 9, none⟩ = some (Value.bool E.rsv) := fun p => uR w2 p (show wr.heap.size < w2.heap.size by omega) z9
    have y10 : ∀ p, (vR w2 p).cell? ⟨wr.heap.size, 10, none⟩ = some (Value.slice E.av.a E.av.n E.av.c) := fun p => uR w2 p (show wr.heap.size < w2.heap.size by omega) z10
    have y11 : ∀ p, (vR w2 p).cell? ⟨wr.heap.size, 11, none⟩ = some (Value.slice E.dv.a E.dv.n E.dv.c) := fun p => uR w2 p (show wr.heap.size < w2.heap.size by omega) z11
    have y12 : ∀ p, (vR w2 p).cell? ⟨wr.heap.size, 12, none⟩ = some (Value.slice E.cv.a E.cv.n E.cv.c) := fun p => uR w2 p (show wr.heap.size < w2.heap.size by omega) z12
    clear z0 z1 z2 z3 z4 z5 z6 z7 z8 z9 z10 z11 z12
    by_cases hfk : f = (k : Int)
    ·have hb1' : (f == (k : Int)) = true := by simpa using hfk
     have F : Hid (res = false) := Lib.hid (by rw [← RES.out]; exact wL _ _ _ hlt (by unfold fromOk; rw [HE.out, HF.out, LD.out]; simp [hfk]))
     go_wp2
     refine uT (by kernel_rfl) (by kernel_rfl) ?_
     repeat (go_big_quiet_step (((go_at_call 78; refine vV (?_ : Calls _ _ _ _ fun e w' => e = .returned (.bool true) ∧ _); have t := LC.out; rw [LD.out] at t; exact t _))))
     refine wpQuiet_nil ?_
     intro wq hwq
     obtain ⟨pq, hwq2⟩ := hwq
     have hbq : Below (w2).heap.size (w2) wq := by rw [hwq2]; exact vF (w2) pq
     clear hwq2
     go_wp2
     go_ret
     exact ⟨vC F.out.symm, (HWB.out wq hbq).1⟩
    have hb1' : (f == (k : Int)) = false := by simpa using hfk
    by_cases hf0 : f < 0
    ·have F : Hid (res = false) := Lib.hid (by rw [← RES.out]; exact wL _ _ _ hlt (by unfold fromOk; rw [HE.out, HF.out, LD.out]; simp [hf0]))
     go_wp2
     refine uT (by kernel_rfl) (by kernel_rfl) ?_
     repeat (go_big_quiet_step (((go_at_call 78; refine vV (?_ : Calls _ _ _ _ fun e w' => e = .returned (.bool true) ∧ _); have t := LC.out; rw [LD.out] at t; exact t _))))
     refine wpQuiet_nil ?_
     intro wq hwq
     obtain ⟨pq, hwq2⟩ := hwq
     have hbq : Below (w2).heap.size (w2) wq := by rw [hwq2]; exact vF (w2) pq
     clear hwq2
     go_wp2
     go_ret
     exact ⟨vC F.out.symm, (HWB.out wq hbq).1⟩
    have hb2' : decide (f < 0) = false := by simpa using hf0
    by_cases hfn : (x.evs.length : Int) ≤ f
    ·have F : Hid (res = false) := Lib.hid (by rw [← RES.out]; exact wL _ _ _ hlt (by unfold fromOk; rw [HE.out, HF.out, LD.out]; simp [hfn]))
     go_wp2
     refine uT (by kernel_rfl) (by kernel_rfl) ?_
     repeat (go_big_quiet_step (((go_at_call 78; refine vV (?_ : Calls _ _ _ _ fun e w' => e = .returned (.bool true) ∧ _); have t := LC.out; rw [LD.out] at t; exact t _))))
     refine wpQuiet_nil ?_
     intro wq hwq
     obtain ⟨pq, hwq2⟩ := hwq
     have hbq : Below (w2).heap.size (w2) wq := by rw [hwq2]; exact vF (w2) pq
     clear hwq2
     go_wp2
     go_ret
     exact ⟨vC F.out.symm, (HWB.out wq hbq).1⟩
    have hb3' : decide ((x.evs.length : Int) ≤ f) = false := by simpa using hfn
    obtain ⟨fn, rfl⟩ : ∃ fn : Nat, f = fn := ⟨f.toNat, by omega⟩
    have hflt : fn < x.evs.length := by omega
    have hb4' : decide (x.evs.length ≤ fn) = false := by simp; omega
    have hb5' : ((fn : Int) < 0) = False := by simp
    obtain ⟨G, hG⟩ : ∃ G, x.evs.getD fn default = G := ⟨_, rfl⟩
    have hcG := (HCL.out fn hflt).below (HWB.out w2 (Below.refl _ _)).1 hbB
    rw [hG] at hcG
    have HG := Lib.hid hG
    clear hG
    have gX : ∀ p, EvCells (vR w2 p) b (off + fn * 13) G := fun p => (hcG).below (vF w2 p) (show b < w2.heap.size by omega)
    unfold EvCells at gX
    have g0 : ∀ p, (vR w2 p).cell? ⟨b, (off + fn * 13), none⟩ = some (Value.int IntKind.i64 G.hart) := fun p => (gX p).1
    have g1 : ∀ p, (vR w2 p).cell? ⟨b, (off + fn * 13) + 1, none⟩ = some (Value.int IntKind.i64 G.kind) := fun p => (gX p).2.1
    have g2 : ∀ p, (vR w2 p).cell? ⟨b, (off + fn * 13) + 2, none⟩ = some (Value.int IntKind.u32 G.addr) := fun p => (gX p).2.2.1
    have g3 : ∀ p, (vR w2 p).cell? ⟨b, (off + fn * 13) + 3, none⟩ = some (Value.int IntKind.u32 G.val) := fun p => (gX p).2.2.2.1
    have g4 : ∀ p, (vR w2 p).cell? ⟨b, (off + fn * 13) + 4, none⟩ = some (Value.int IntKind.u32 G.rval) := fun p => (gX p).2.2.2.2.1
    have g5 : ∀ p, (vR w2 p).cell? ⟨b, (off + fn * 13) + 5, none⟩ = some (Value.bool G.aq) := fun p => (gX p).2.2.2.2.2.1
    have g6 : ∀ p, (vR w2 p).cell? ⟨b, (off + fn * 13) + 6, none⟩ = some (Value.bool G.rl) := fun p => (gX p).2.2.2.2.2.2.1
    have g7 : ∀ p, (vR w2 p).cell? ⟨b, (off + fn * 13) + 7, none⟩ = some (Value.int IntKind.i64 G.pred) := fun p => (gX p).2.2.2.2.2.2.2.1
    have g8 : ∀ p, (vR w2 p).cell? ⟨b, (off + fn * 13) + 8, none⟩ = some (Value.int IntKind.i64 G.succ) := fun p => (gX p).2.2.2.2.2.2.2.2.1
    have g9 : ∀ p, (vR w2 p).cell? ⟨b, (off + fn * 13) + 9, none⟩ = some (Value.bool G.rsv) := fun p => (gX p).2.2.2.2.2.2.2.2.2.1
    have g10 : ∀ p, (vR w2 p).cell? ⟨b, (off + fn * 13) + 10, none⟩ = some (Value.slice G.av.a G.av.n G.av.c) := fun p => (gX p).2.2.2.2.2.2.2.2.2.2.1
    have g11 : ∀ p, (vR w2 p).cell? ⟨b, (off + fn * 13) + 11, none⟩ = some (Value.slice G.dv.a G.dv.n G.dv.c) := fun p => (gX p).2.2.2.2.2.2.2.2.2.2.2.1
    have g12 : ∀ p, (vR w2 p).cell? ⟨b, (off + fn * 13) + 12, none⟩ = some (Value.slice G.cv.a G.cv.n G.cv.c) := fun p => (gX p).2.2.2.2.2.2.2.2.2.2.2.2
    clear gX
    have SC := Lib.hid (fun w => mT G w)
    have HFK := Lib.hid hfk
    clear hfk
    cases hst : G.stB with
    | false =>
     have ST := Lib.hid hst
     clear hst
     have F : Hid (res = false) := Lib.hid (by rw [← RES.out]; exact wL _ _ _ hlt (by unfold fromOk srcOk; rw [HE.out, HF.out, LD.out, Int.toNat_natCast, HG.out, ST.out]; simp))
     go_wp2
     refine uT (by kernel_rfl) (by kernel_rfl) ?_
     repeat (go_big_quiet_step ((first | (go_at_call 78; refine vV (?_ : Calls _ _ _ _ fun e w' => e = .returned (.bool true) ∧ _); have t := LC.out; rw [LD.out] at t; exact t _) | (go_at_call 79; refine vV (?_ : Calls _ _ _ _ fun e w' => e = .returned (.bool false) ∧ _); have t := SC.out; rw [ST.out] at t; exact t _))))
     refine wpQuiet_nil ?_
     intro wq hwq
     obtain ⟨pq, hwq2⟩ := hwq
     have hbq : Below (w2).heap.size (w2) wq := by rw [hwq2]; exact vF (w2) pq
     clear hwq2
     go_wp2
     go_ret
     exact ⟨vC F.out.symm, (HWB.out wq hbq).1⟩
    | true =>
    have ST := Lib.hid hst
    clear hst
    obtain ⟨ba, hba⟩ : ∃ bool_ : Bool, (G.addr != E.addr) = bool_ := ⟨_, rfl⟩
    obtain ⟨bv, hbv⟩ : ∃ bool_ : Bool, (G.val != E.rval) = bool_ := ⟨_, rfl⟩
    have BA := Lib.hid hba
    have BV := Lib.hid hbv
    cases ba with
    | true =>
     have F : Hid (res = false) := Lib.hid (by rw [← RES.out]; exact wL _ _ _ hlt (by unfold fromOk srcOk; rw [HE.out, HF.out, LD.out, Int.toNat_natCast, HG.out, ST.out, BA.out]; simp))
     go_wp2
     refine uT (by kernel_rfl) (by kernel_rfl) ?_
     repeat (go_big_quiet_step ((first | (go_at_call 78; refine vV (?_ : Calls _ _ _ _ fun e w' => e = .returned (.bool true) ∧ _); have t := LC.out; rw [LD.out] at t; exact t _) | (go_at_call 79; refine vV (?_ : Calls _ _ _ _ fun e w' => e = .returned (.bool true) ∧ _); have t := SC.out; rw [ST.out] at t; exact t _))))
     refine wpQuiet_nil ?_
     intro wq hwq
     obtain ⟨pq, hwq2⟩ := hwq
     have hbq : Below (w2).heap.size (w2) wq := by rw [hwq2]; exact vF (w2) pq
     clear hwq2
     go_wp2
     go_ret
     exact ⟨vC F.out.symm, (HWB.out wq hbq).1⟩
    | false =>
    cases bv with
    | true =>
     have F : Hid (res = false) := Lib.hid (by rw [← RES.out]; exact wL _ _ _ hlt (by unfold fromOk srcOk; rw [HE.out, HF.out, LD.out, Int.toNat_natCast, HG.out, ST.out, BA.out, BV.out]; simp))
     go_wp2
     refine uT (by kernel_rfl) (by kernel_rfl) ?_
     repeat (go_big_quiet_step ((first | (go_at_call 78; refine vV (?_ : Calls _ _ _ _ fun e w' => e = .returned (.bool true) ∧ _); have t := LC.out; rw [LD.out] at t; exact t _) | (go_at_call 79; refine vV (?_ : Calls _ _ _ _ fun e w' => e = .returned (.bool true) ∧ _); have t := SC.out; rw [ST.out] at t; exact t _))))
     refine wpQuiet_nil ?_
     intro wq hwq
     obtain ⟨pq, hwq2⟩ := hwq
     have hbq : Below (w2).heap.size (w2) wq := by rw [hwq2]; exact vF (w2) pq
     clear hwq2
     go_wp2
     go_ret
     exact ⟨vC F.out.symm, (HWB.out wq hbq).1⟩
    | false =>
     have D : Hid (fromOk x.evs x.from_ k = true) := Lib.hid (by unfold fromOk srcOk; rw [HE.out, HF.out, LD.out, Int.toNat_natCast, HG.out, ST.out, BA.out, BV.out]; have := HFK.out; simp; omega)
     go_wp2
     refine uT (by kernel_rfl) (by kernel_rfl) ?_
     repeat (go_big_quiet_step ((first | (go_at_call 78; refine vV (?_ : Calls _ _ _ _ fun e w' => e = .returned (.bool true) ∧ _); have t := LC.out; rw [LD.out] at t; exact t _) | (go_at_call 79; refine vV (?_ : Calls _ _ _ _ fun e w' => e = .returned (.bool true) ∧ _); have t := SC.out; rw [ST.out] at t; exact t _))))
     refine wpQuiet_nil ?_
     intro wq hwq
     obtain ⟨pq, hwq2⟩ := hwq
     have hbq : Below (w2).heap.size (w2) wq := by rw [hwq2]; exact vF (w2) pq
     clear hwq2
     go_wp2
     go_roundw
     case rel => first | exact ⟨k + 1, by omega, by go_num, by rw [yA, HTO.out, D.out]; rfl, (HWB.out wq hbq).2⟩ | ((repeat apply Exists.intro); exact ⟨⟨k + 1, by omega, by go_num, by rw [yA, HTO.out, D.out]; rfl, (HWB.out wq hbq).2⟩, rfl⟩)
     case measure => simp [intOf]; omega
  ·have hke : k = x.from_.length := by omega
   have F : Hid (res = true) := Lib.hid (by rw [← RES.out]; unfold fromB; rw [← hke, HTO.out]; have := HLEN.out; simp; omega)
   clear hke
   go_wp2
   go_ret
   exact ⟨vC F.out.symm, hb.trans (hbr.mono (by omega))⟩
theorem from_c (x : Ex) (w : World) (hx : x.inW w.heap.size w) :
  Calls Tryz.prog 53 #[x.agg] w fun o w' => o = .returned (.bool (fromB x.evs x.from_)) ∧ Below w.heap.size w w' := by
 by_cases hlen : x.from_.length = x.evs.length
 ·by_cases hne : x.evs = []
  ·have h0 : x.from_ = [] := by rw [hne] at hlen; exact List.length_eq_zero_iff.1 hlen
   have : fromB x.evs x.from_ = true := by rw [hne, h0]; rfl
   rw [this]; exact from_none_c x w hx h0 hne
  ·exact from_some_c x w hx hlen hne
 ·have : fromB x.evs x.from_ = false := by unfold fromB; simp [hlen]
  rw [this]; exact from_len_c x w hx hlen
end Go.Proofs.YtnkocjkkefnelaaGreat
