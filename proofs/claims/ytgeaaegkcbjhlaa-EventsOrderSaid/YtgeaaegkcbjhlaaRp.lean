/- slices.AppendSeq, Collect, SortedFunc at pairs; 'pairs', in plain data. -/
import Derived.Test.YtgeaaegkcbjhlaaRg
import Derived.Test.YtgeaaegkcbjhlaaFr

import Derived.Test.YtgeaaegkcbjhlaaFz

set_option maxRecDepth 100000
set_option linter.unusedVariables false
set_option linter.unusedSimpArgs false
namespace Go.Proofs.Ytgeaaegkcbjhlaa
open Go.RowKit
def pairO' (p : Int × Int) : List OV := [.int .i64 p.1, .int .i64 p.2]
/-- what an iterator of pairs gives -/
def pairYs (l : List (Int × Int)) : List (List OV) := l.map fun p => [.ag (pairO' p)]
theorem pairYs_get (l : List (Int × Int)) {i : Nat} (h : i < l.length) : (pairYs l).getD i [] = [.ag (pairO' (l.getD i default))] := by
  unfold pairYs
  rw [List.getD_eq_getElem?_getD, List.getElem?_map, List.getD_eq_getElem?_getD, List.getElem?_eq_getElem h]
  rfl
theorem take_get' {α : Type} (l : List α) (d : α) (k : Nat) (h : k < l.length) : l.take (k + 1) = l.take k ++ [l.getD k d] := by
  rw [List.take_succ_eq_append_getElem h, List.getD_eq_getElem?_getD, List.getElem?_eq_getElem h]; rfl
theorem LeafR.pairs' (l : List (Int × Int)) : LeafR (l.map pairO') := LeafR.map l fun a y hy => by
  simp only [pairO', List.mem_cons, List.not_mem_nil, or_false] at hy
  rcases hy with rfl | rfl <;> rfl
set_option maxHeartbeats 4000000 in
theorem appendSeq_p {y : OV} {f : FuncId} {fi ca : List OV} (hf : IsFn y f fi ca) (l : List (Int × Int)) (hl : l.length ≤ 1073741824) (hs : SeqW E.P f fi ca (pairYs l)) :
    Own E.P 69 [.d (.c (.slice none 0 0)), y] 2 (l.map pairO') := by
  have k2 : KeyOf 2 1002 := ⟨trivial⟩
  have k11 : KeyOf 11 1011 := ⟨trivial⟩
  have k9 : KeyOf 5 1005 := ⟨trivial⟩
  refine fn_of_awp Try.func69 (by decide) rfl Try.ntmps69 (Nat.le_of_ble_eq_true rfl) rfl ?_
  refine awp_own0 (d := 0) 1011 2 rfl fun τ => ?_
  refine awp_seq ?_
  ((refine ao_region ?_ (fun _ => ?_)); exact rfl)
  (apply S_boxK; assumption; exact rfl; exact rfl; exact rfl)
  (apply S_nilA; exact rfl; exact rfl; exact rfl; exact rfl)
  refine ao_nil ?_
  refine then_n ?_
  iterate 2 refine awp_seq ?_
  ((refine ao_region ?_ (fun _ => ?_)); exact rfl)
  (apply S_move; exact rfl)
  refine ao_nil ?_
  refine then_n ?_
  refine awp_block ?_
  rotate_left
  rename_i v0 _
  refine awp_range (X := Nat × Stamp) rfl hf hs (fun p => [(1002, ((v0, 0), ⟨1, [[.os 1011 p.2 2 p.1]]⟩)), (1011, (p.2, ⟨2, (l.take p.1).map pairO'⟩))]) (fun i p => p.1 = i ∧ i ≤ l.length) (0, τ) ⟨rfl, Nat.zero_le _⟩ l.length .normal rfl (by simp [pairYs]) (fun _ => by simp [pairYs]) (fun h => (h rfl).elim)
    (tmL [(2, .lo 1002 (v0, 0) 1 0 0)]) (by repeat' (first | exact le_nil _ | exact sle_nil _ | refine le_cons rfl ?_ | refine sle_cons rfl ?_)) rfl (by decide) (fun i hi => by rw [pairYs_get _ hi]; rfl) (by repeat' (first | exact le_nil _ | exact sle_nil _ | refine le_cons rfl ?_ | refine sle_cons rfl ?_)) (fun p => by simp) (fun p => by simp) ?_ ?_
  · rintro i ⟨j, τ'⟩ hi ⟨rfl, hj⟩
    dsimp only at hi hj ⊢
    rw [pairYs_get _ hi]
    have hlen : (l.take j).length = j := by simp; omega
    ((refine ao_region ?_ (fun _ => ?_)); exact rfl)
    (apply S_allocK; assumption; exact rfl)
    (apply S_store; exact rfl; exact rfl; exact rfl; exact rfl; exact rfl; exact rfl; (first | exact rfl | exact get_map (by omega) (0 : Int) | exact get_map (by omega) default | exact get_set_ne (by omega) (by omega) (0 : Int) | assumption); exact Nat.le_of_ble_eq_true rfl)
    refine ao_nil ?_
    rotate_left
    refine ⟨rfl, ?_⟩
    have hleaf := LeafR.pairs'
    refine awp_block ?_
    ((refine ao_region ?_ (fun _ => ?_)); exact rfl)
    (apply S_load_lo; exact rfl; exact rfl; exact rfl; exact rfl; (first | exact rfl | exact get_map (by omega) (0 : Int) | exact get_map (by omega) default | exact hrow _ | assumption); exact rfl)
    (apply S_load_loA; exact rfl; exact rfl; exact rfl; exact rfl; (first | exact rfl | exact get_map (by omega) default | exact get_set_ne (by omega) (by omega) (0 : Int) | assumption); exact Nat.le_of_ble_eq_true rfl)
    (apply S_buildSlice; exact rfl; exact rfl; exact rfl; decide; decide; decide; exact rfl; exact rfl)
    (apply S_appendK; assumption; exact rfl; exact rfl; exact rfl; exact rfl; decide; exact rfl; exact rfl; (first | exact .os _ _ _ _ rfl (by first | rfl | (first | omega | (simp only [List.length_append, List.length_map, List.length_take, List.length_drop, List.length_cons, List.length_nil, List.length_replicate, chop_length] <;> omega))) | exact .nil); (first | exact .os _ _ _ _ rfl (by first | rfl | (first | omega | (simp only [List.length_append, List.length_map, List.length_take, List.length_drop, List.length_cons, List.length_nil, List.length_replicate, chop_length] <;> omega))) | exact .vw _ _ _ _ _ rfl (by (first | omega | (simp only [List.length_append, List.length_map, List.length_take, List.length_drop, List.length_cons, List.length_nil, List.length_replicate, chop_length] <;> omega))) | exact .nil | exact .sl _); (repeat (first | exact LeafR.nil | exact LeafR.cells _ _ | exact LeafR.d _ | (apply LeafR.one; exact rfl) | exact hleaf _ | refine LeafR.take _ ?_ | refine LeafR.drop _ ?_ | refine LeafR.app ?_ ?_ | (apply LeafR.lit; exact rfl) | assumption)); (show _ * (Nat.succ _) ≤ _; (first | omega | (simp only [List.length_append, List.length_map, List.length_take, List.length_drop, List.length_cons, List.length_nil, List.length_replicate, chop_length] <;> omega))); (unfold maxLen; (first | omega | (simp only [List.length_append, List.length_map, List.length_take, List.length_drop, List.length_cons, List.length_nil, List.length_replicate, chop_length] <;> omega))))
    (apply S_store; exact rfl; exact rfl; exact rfl; exact rfl; exact rfl; exact rfl; (first | exact rfl | exact get_map (by omega) (0 : Int) | exact get_map (by omega) default | exact get_set_ne (by omega) (by omega) (0 : Int) | assumption); exact Nat.le_of_ble_eq_true rfl)
    refine ao_nil ?_
    refine blk_n ?_
    rotate_left
    rename_i v
    refine ⟨by cases (j + 1 == l.length) <;> rfl, (j + 1, (v, 3)), ⟨rfl, by omega⟩, sle_cons' rfl ?_ (sle_cons' rfl ?_ (sle_nil _))⟩
    · refine congrArg (fun n => [[OV.os 1011 (v, 3) 2 n]]) ?_
      show (List.map pairO' (List.take j l)).length + 1 = j + 1
      rw [List.length_map, hlen]
    · rw [take_get' l default j hi, List.map_append]; rfl
  · rintro ⟨j, τ'⟩ ⟨rfl, hj⟩
    dsimp only
    refine blk_n ?_
    refine then_n ?_
    refine awp_seq ?_
    ((refine ao_region ?_ (fun _ => ?_)); exact rfl)
    (apply S_load_lo; exact rfl; exact rfl; exact rfl; exact rfl; (first | exact rfl | exact get_map (by omega) (0 : Int) | exact get_map (by omega) default | exact hrow _ | assumption); exact rfl)
    (apply S_ren; exact rfl; exact rfl)
    refine ao_nil ?_
    refine then_n ?_
    refine awp_ret ?_
    rotate_left
    refine own_done (d := 4) rfl rfl ?_ ?_
    · rw [List.take_length]
    · simp
end Go.Proofs.Ytgeaaegkcbjhlaa
