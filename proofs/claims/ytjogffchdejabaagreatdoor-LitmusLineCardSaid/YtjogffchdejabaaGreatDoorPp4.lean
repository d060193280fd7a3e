/- Parts. -/
import Derived.Test.YtjogffchdejabaaGreatDoorPp3
set_option linter.unusedVariables false
set_option linter.unusedSimpArgs false
set_option maxHeartbeats 4000000
set_option maxRecDepth 100000
namespace Go.Proofs.YtjogffchdejabaaGreatDoor
open Go.RowKit
section
variable {E : Env} {v j : Nat} {tm : Tm} {σ : Store} {ty : TypeId} {pos : String} {af : Array Edge} {dst : Option Tmp}
theorem Y_appendK {d kk : Nat} {T e : TypeId} {te ee : TE} {x z : Operand} {s k : Nat} {y1 y2 : OV} {ks1 ks2 : List Nat} {rows1 rows2 : List (List OV)} (hmk : KeyOf d kk) (hT : E.tab T = some te) (hk : te.k = .slice e) (hE : E.tab e = some ee) (hs : ee.size = s) (hpos : 0 < s) (hx : ev tm x = some y1) (hz : ev tm z = some y2) (h1 : Dst σ s kk y1 ks1 k rows1) (h2 : Src σ s y2 ks2 rows2) (hlf : ∀ r ∈ rows2, ∀ y ∈ r, y.leaf = true) (hb : (rows1.length + rows2.length) * ee.bytes ≤ 140737488355328) (hm : rows1.length + rows2.length ≤ maxLen) : YL E.P v j ⟨some d, .call { callee := .builtin .append, args := #[x, z], argTypes := #[T, T] }, ty, pos, af, none⟩ tm σ (ks1 ++ ks2) (.os k (v, j) s (rows1.length + rows2.length)) [(k, some ((v, j), ⟨s, rows1 ++ rows2⟩))] := YL.dst (qE (d := kk) hT hk hE hs hpos hx hz h1 h2 hlf hb hm)
theorem Y_buildSliceF {d : Nat} {rowsF : List (List TV)} {T : TypeId} {n : Nat} {parts : List (Nat × Operand)} {te ee : TE} {e : TypeId} {ys : List (Nat × OV)} {cs : List OV} (hmF : Frozen d) (hT : E.tab T = some te) (hk : te.k = .slice e) (hE : E.tab e = some ee) (hpos : 0 < ee.size) (hn : n * ee.size ≤ 16777216) (hn' : n ≤ maxLen) (hp : evParts tm parts = some ys) (hc : fillO (fun i => some (i * ee.size, ee.size)) ((List.replicate n (consts ee.zero)).flatten) ys = some cs) (hrF : FzR (chop ee.size n cs) rowsF) (hnF : n = (chop ee.size n cs).length) : YL E.P v j ⟨some d, .buildSlice T n parts.toArray, ty, pos, af, none⟩ tm σ [] (.d (.sl ee.size rowsF)) [(d, none)] := YL.frz hrF hnF (fZ hT hk hE hpos hn hn' hp hc)
theorem Y_buildN {d : Nat} {T : TypeId} {parts : List (Nat × Operand)} {te : TE} {fs : List (Nat × TypeId)} {ys : List (Nat × OV)} {cs cs' : List OV} (hmN : NilS d) (hT : E.tab T = some te) (hk : te.k = .st fs) (hfs : (fs.all fun f => (E.tab f.2).isSome) = true) (hp : evParts tm parts = some ys) (hc : fillO (fun i => (fs[i]?).map fun f : Nat × TypeId => (f.1, sizeT E f.2)) (consts te.zero) ys = some cs) (hn : cs.map nfix = cs') : YL E.P v j ⟨some d, .build T parts.toArray, ty, pos, af, none⟩ tm σ [] (.ag cs') [] := YL.weakR (nY (d := some d) hT hk hfs hp hc) (fun _ _ h => by subst hn; exact nfix_ag h)
theorem Y_boxF {d : Nat} {T : TypeId} {x : Operand} {y : OV} {n : Nat} {row : List TV} (hmF : Frozen d) (hx : ev tm x = some y) (hw' : y.wide = true) (hn : y.cells.length = n) (hr : FzTs y.cells row) : YL E.P v j ⟨some d, .box T x, ty, pos, af, none⟩ tm σ [] (.d (.pt row 0)) [(d, none)] := YL.frzB hr (uAK hx hw' hn)
end
variable {p : Prop}
theorem apb (h : p := by (first | omega | (simp only [List.length_append, List.length_map, List.length_take, List.length_drop, List.length_cons, List.length_nil, List.length_replicate, aS] <;> omega))) : p := h
theorem yls (h : p := by
 (first
  | (with_reducible exact im_ftY)
  | ((with_reducible refine im_any (fun hc_ => ?_)); (first
   | ((with_reducible apply uAM); exact evm)
   | ((with_reducible apply mO); exact rfl; exact rfl; exact evm; exact rfl)
   | ((with_reducible apply gT); exact rfl; exact rfl; exact evm; exact rfl; exact rfl; exact rfl)
   | ((with_reducible apply cQ); exact rfl; exact rfl; exact rfl; exact rfl; decide; exact evm)
   | ((with_reducible apply cR); exact rfl; exact rfl; exact rfl; exact rfl; decide; exact evm)
   | ((with_reducible apply uBK); exact evm; exact evm)
   | ((with_reducible apply uBJ); exact evm; exact evm)
   | ((with_reducible apply M_lss); exact evm; exact evm)
   | ((with_reducible apply uAN); exact evm; exact evm)
   | ((with_reducible apply M_gtr); exact evm; exact evm)
   | ((with_reducible apply M_not); exact evm)
   | ((with_reducible apply gS); exact evm; exact rfl; (first | (refine EvB.mb _ rfl ?_; first | exact fun h => h | exact fun h => wB h | exact fun h => wC (by assumption) h | exact fun h => wC (by assumption) (wB h) | (intro h; simp_all)) | exact EvB.plain rfl))
   | ((with_reducible apply eU); exact evm; (first | (refine EvB.mb _ rfl ?_; first | exact fun h => h | exact fun h => wB h | exact fun h => wC (by assumption) h | exact fun h => wC (by assumption) (wB h) | (intro h; simp_all)) | exact EvB.plain rfl); exact rfl)
   | ((with_reducible apply oB); exact evm; (first | (refine EvB.mb _ rfl ?_; first | exact fun h => h | exact fun h => wB h | exact fun h => wC (by assumption) h | exact fun h => wC (by assumption) (wB h) | (intro h; simp_all)) | exact EvB.plain rfl); (first | (refine EvB.mb _ rfl ?_; first | exact fun h => h | exact fun h => wB h | exact fun h => wC (by assumption) h | exact fun h => wC (by assumption) (wB h) | (intro h; simp_all)) | exact EvB.plain rfl))
   | ((with_reducible apply M_len); exact rfl; exact rfl; exact evm; (first | exact len_ints _ | exact rU _ _ _ | exact qL _ _ | exact tI _ _ _ _ | exact len_vw _ _ _ _ _ | exact len_nil))
   | ((with_reducible apply M_load_ptA); exact rfl; exact rfl; exact evm; exact Nat.le_of_ble_eq_true rfl)
   | ((with_reducible apply M_load_loA); exact rfl; exact rfl; exact evm; exact rfl; exact rfl; exact Nat.le_of_ble_eq_true rfl)
   | ((have hp_ := hc_; (try simp only [nrm] at hp_)); (first
    | ((with_reducible apply gT); exact rfl; exact rfl; exact evm; exact rfl; (first | exact uW (by omega) (0 : Int) | exact uW (by omega) default); exact rfl)
    | ((with_reducible apply cP); exact rfl; exact rfl; exact rfl; exact rfl; exact evm; exact evm; omega; (first | exact rY (by omega) | exact uW (by omega) default | assumption)))))))) : p := h
structure Hide (q : Prop) : Prop where
 out : q
structure Mk (n : Nat) : Prop
theorem rZ {q : Prop} (hc_q : q) (m : Nat := 0) (h : Hide q → Mk m → p := by
  intro hc_q hm_
  repeat (first
    | ((with_reducible refine uA ?_); (first | have hz_ : Mk 0 := hm_ | have hz_ : Mk 1 := hm_); clear hz_)
    | (with_reducible refine uD ?_)
    | (with_reducible refine vH ?_)
    | ((with_reducible apply S_storeF); assumption; exact rfl; exact rfl; exact rfl; exact rfl; exact rfl; exact rfl; exact rfl; (repeat (first | exact FzTs.nil | exact FzTs.map _ | apply FzTs.cons | exact FzT.d _ | apply FzT.fn | assumption)))
    | ((first | (with_reducible apply uQ) | (with_reducible apply xA)); (first
        | ((with_reducible apply Y_appendK); assumption; exact rfl; exact rfl; exact rfl; exact rfl; decide; exact rfl; exact rfl; (first | exact .os _ _ _ _ rfl (by first | rfl | exact apb) | exact .nil); (first | exact .os _ _ _ _ rfl (by first | rfl | exact apb) | exact .vw _ _ _ _ _ rfl (by exact apb) | exact .nil | exact .sl _); (repeat (first | exact LeafR.nil | exact LeafR.cells _ _ | exact LeafR.d _ | (apply LeafR.one; exact rfl) | exact hleaf _ | refine LeafR.take _ ?_ | refine LeafR.drop _ ?_ | refine LeafR.app ?_ ?_ | (apply LeafR.lit; exact rfl) | assumption)); (show _ * (Nat.succ _) ≤ _; exact apb); (unfold maxLen; exact apb))
        | ((with_reducible apply Y_buildSliceF); assumption; exact rfl; exact rfl; exact rfl; decide; decide; decide; exact rfl; exact rfl; (repeat (first | exact FzR.nil | exact FzR.ints _ | exact FzR.d _ | exact hfz _ | exact FzC.map _ | exact FzC.nil | apply FzR.take | apply FzR.drop | apply FzR.app | apply FzR.cons | apply FzC.cons | assumption)); (first | rfl | exact apb))
        | ((with_reducible apply qF); assumption; exact rfl)
        | ((with_reducible apply Y_buildN); assumption; exact rfl; exact rfl; exact rfl; exact rfl; exact rfl; exact rfl)
        | ((with_reducible apply Y_boxF); assumption; exact rfl; exact rfl; exact rfl; (repeat (first | exact FzTs.nil | exact FzTs.map _ | apply FzTs.cons | exact FzT.d _ | apply FzT.fn | assumption)))
        | ((with_reducible apply uAF); exact rfl; exact rfl; exact rfl; exact rfl)
        | ((with_reducible apply uAE); exact rfl; exact rfl)
        | ((with_reducible apply qQ); exact rfl)
        | ((with_reducible apply qD); exact rfl)
        | ((with_reducible apply dO); exact rfl; exact rfl; exact rfl; exact rfl)
        | ((with_reducible apply dP); exact rfl; exact rfl; exact rfl; exact rfl; (first | exact rfl | exact uW (by omega) (0 : Int) | exact uW (by omega) default | exact hrow _ | assumption); exact rfl)
        | ((with_reducible apply yV); exact rfl; exact rfl; exact rfl; exact rfl; decide; exact rfl)
        | ((with_reducible apply yW); exact rfl; exact rfl; exact rfl; exact rfl; decide; exact rfl)
        | ((with_reducible apply cN); exact rfl; exact rfl; exact rfl; exact rfl; exact rfl; exact rfl; omega; (first | exact rY (by omega) | exact uW (by omega) default | assumption))
        | ((with_reducible apply aH); exact rfl; exact rfl; exact rfl; exact rfl; exact rfl; exact rfl; omega)
        | ((with_reducible apply uBG); exact rfl; exact rfl; exact rfl; (first | exact len_ints _ | exact rU _ _ _ | exact qL _ _ | exact tI _ _ _ _ | exact len_vw _ _ _ _ _ | exact len_nil))
        | ((with_reducible apply sP); exact rfl; exact rfl; omega)
        | ((with_reducible apply sN); exact rfl; exact rfl; omega)
        | ((with_reducible apply (uAL (k := .u32))); exact rfl; exact rfl)
        | ((with_reducible apply (uAD (k := .u32))); exact rfl; exact rfl)
        | ((with_reducible apply uAI); exact rfl; exact rfl)
        | ((with_reducible apply uBD); exact rfl; exact rfl)
        | ((with_reducible apply uAH); exact rfl; exact rfl)
        | ((with_reducible apply sO); exact rfl; exact rfl)
        | ((with_reducible apply uBH); exact rfl; exact rfl)
        | ((with_reducible apply uBI); exact rfl; exact rfl)
        | ((with_reducible apply uBC); exact rfl)
        | ((with_reducible apply uAK); exact rfl; exact rfl; exact rfl)
        | ((with_reducible apply Y_rem); exact rfl; exact rfl; (first | decide | omega))
        | ((with_reducible apply nZ); exact rfl)
        | ((with_reducible apply eS); exact rfl; exact rfl; exact rfl; exact Nat.le_of_ble_eq_true rfl)
        | ((with_reducible apply eT); exact rfl; exact rfl; exact rfl; exact rfl; (first | exact rfl | exact uW (by omega) default | exact wK (by omega) (by omega) (0 : Int) | assumption); exact Nat.le_of_ble_eq_true rfl)
        | ((with_reducible apply iX); exact rfl; exact rfl; exact rfl; exact rfl; exact rfl; exact rfl; (first | exact rfl | exact uW (by omega) (0 : Int) | exact uW (by omega) default | exact wK (by omega) (by omega) (0 : Int) | assumption); exact Nat.le_of_ble_eq_true rfl)
        | ((with_reducible apply Y_conv32u); exact rfl; exact rfl; exact rfl; exact rfl; exact rfl; omega)
        | ((with_reducible apply Y_extract); exact rfl; exact rfl)
        | ((with_reducible apply Y_slice_sl); exact rfl; exact rfl; exact rfl; exact rfl; exact rfl; (first | exact rfl | exact ⟨_, _, rfl, by omega, rfl⟩); (first | exact rfl | exact ⟨_, _, rfl, by omega, rfl⟩); omega; omega)
        | ((with_reducible apply kW); exact rfl; exact rfl; exact rfl; exact rfl; exact rfl; (first | exact rfl | exact ⟨_, _, rfl, by omega, rfl⟩); (first | exact rfl | exact ⟨_, _, rfl, by omega, rfl⟩); omega; omega)
        | ((with_reducible apply Y_indexAddr_loA); exact rfl; exact rfl; exact rfl; exact rfl; exact rfl; omega)
        | ((with_reducible apply uBF); exact rfl; exact rfl)
        | ((with_reducible apply nY); exact rfl; exact rfl; exact rfl; exact rfl; exact rfl)
        | ((with_reducible apply Y_buildA); exact rfl; exact rfl; exact rfl; exact rfl; exact rfl)
        | ((with_reducible apply fZ); exact rfl; exact rfl; exact rfl; decide; decide; decide; exact rfl; exact rfl)
        | ((with_reducible apply iE); exact rfl; exact rfl; exact rfl; decide; exact rfl; exact rfl; omega; (show ((Nat.succ _ : Nat) : Int) * _ ≤ _; omega); omega)
        | ((with_reducible apply Y_makeFunc); exact rfl; exact rfl)
        | ((with_reducible apply eR); exact rfl; exact rfl)
        | ((with_reducible apply Y_mul64); exact rfl; exact rfl; omega)
        | ((with_reducible apply qE); exact rfl; exact rfl; exact rfl; exact rfl; decide; exact rfl; exact rfl; (first | exact .os _ _ _ _ rfl (by first | rfl | exact apb) | exact .nil); (first | exact .os _ _ _ _ rfl (by first | rfl | exact apb) | exact .vw _ _ _ _ _ rfl (by exact apb) | exact .nil | exact .sl _); (repeat (first | exact LeafR.nil | exact LeafR.cells _ _ | exact LeafR.d _ | (apply LeafR.one; exact rfl) | exact hleaf _ | refine LeafR.take _ ?_ | refine LeafR.drop _ ?_ | refine LeafR.app ?_ ?_ | (apply LeafR.lit; exact rfl) | assumption)); (show _ * (Nat.succ _) ≤ _; exact apb); (unfold maxLen; exact apb))
        | ((with_reducible apply gS); exact evm; exact rfl; (first | (refine EvB.mb _ rfl ?_; first | exact fun h => h | exact fun h => wB h | exact fun h => wC (by assumption) h | exact fun h => wC (by assumption) (wB h) | (intro h; simp_all)) | exact EvB.plain rfl))
        | ((with_reducible apply eU); exact evm; (first | (refine EvB.mb _ rfl ?_; first | exact fun h => h | exact fun h => wB h | exact fun h => wC (by assumption) h | exact fun h => wC (by assumption) (wB h) | (intro h; simp_all)) | exact EvB.plain rfl); exact rfl)
        | ((with_reducible apply oB); exact evm; (first | (refine EvB.mb _ rfl ?_; first | exact fun h => h | exact fun h => wB h | exact fun h => wC (by assumption) h | exact fun h => wC (by assumption) (wB h) | (intro h; simp_all)) | exact EvB.plain rfl); (first | (refine EvB.mb _ rfl ?_; first | exact fun h => h | exact fun h => wB h | exact fun h => wC (by assumption) h | exact fun h => wC (by assumption) (wB h) | (intro h; simp_all)) | exact EvB.plain rfl))))
    | ((first | have hz_ : Mk 0 := hm_ | have hz_ : Mk 2 := hm_); clear hz_; (first
        | ((with_reducible apply sV); exact rfl; exact rfl; exact yls)
        | ((with_reducible apply sW); exact rfl; exact rfl; exact yls)
        | ((with_reducible apply zJ); exact rfl; exact rfl; exact yls)
        | ((with_reducible apply sG); exact rfl; exact rfl; exact yls)
        | ((with_reducible apply sH); exact rfl; exact rfl; exact yls)))
    | ((with_reducible apply S_pick_v); exact rfl)
    | (with_reducible refine ao_cons_app ?_)
    | (with_reducible refine ao_nil_app ?_)
    | (with_reducible refine ao_app_app ?_)
    | ((with_reducible apply D_pick_v); exact rfl)
    | ((with_reducible refine nS ?_ ?_); (first | ((try dsimp only [wkeys]); decide +kernel) | exact rfl))
    | (with_reducible refine do_cons_app ?_)
    | (with_reducible refine do_nil_app ?_)
    | (with_reducible refine do_app_app ?_)
    | ((with_reducible apply pick_t); exact rfl)
    | ((with_reducible apply pick_f); exact rfl)
    | (with_reducible refine wH ?_)
    | (with_reducible refine vM ?_)
    | (with_reducible refine zW ?_)
    | (with_reducible refine cJ ?_)
    | (with_reducible refine then_r ?_)
    | (with_reducible refine qH ?_)
    | (with_reducible refine blk_r ?_)
    | (with_reducible refine uBA ?_)
    | (with_reducible refine uAB ?_)
    | ((with_reducible refine blk_y ?_ ?_); exact rfl)
    | (with_reducible refine awp_label ?_)
    | (with_reducible refine awp_scope ?_)
    | (with_reducible refine ng_n ?_)
    | (with_reducible refine ng_r ?_)
    | (with_reducible refine ng_x ?_))
  exact hc_q.out) : p := h ⟨hc_q⟩ ⟨⟩
end Go.Proofs.YtjogffchdejabaaGreatDoor
