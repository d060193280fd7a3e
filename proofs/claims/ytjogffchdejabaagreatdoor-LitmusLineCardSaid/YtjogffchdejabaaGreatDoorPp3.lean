/- Parts. -/
import Derived.Test.YtjogffchdejabaaGreatDoorPp2
set_option linter.unusedVariables false
set_option linter.unusedSimpArgs false
set_option maxHeartbeats 4000000
namespace Go.Proofs.YtjogffchdejabaaGreatDoor
open Go.RowKit
section
attribute [local semireducible] NextOk
section
variable {E : Env} {v j : Nat} {ops : Array Oper} {K : Tm → Store → Prop} {KD : List Foot → Tm → Store → Prop} {acc : List Foot} {rest : List Oper} {tm : Tm} {σ : Store} {ty : TypeId} {pos : String} {af : Array Edge}
theorem S_move {dst : Option Tmp} {x : Operand} {y : OV} (h : ev tm x = some y) (hcont : AO E.P v ops K (j + 1) rest (tm.putO dst y) (σ.apply [])) : AO E.P v ops K j (⟨dst, .move x, ty, pos, af, none⟩ :: rest) tm σ := uQ (qQ h) hcont
theorem uAM {dst : Option Tmp} {gd : Option (Nat × Bool)} {x : Operand} {y : OV} (h : EvM tm x y) : YL E.P v j ⟨dst, .move x, ty, pos, af, gd⟩ tm σ [] y [] := (qQ h.st).strip
theorem S_assign {dst : Option Tmp} {x : Operand} {y : OV} (h : ev tm x = some y) (hcont : AO E.P v ops K (j + 1) rest (tm.putO dst y) (σ.apply [])) : AO E.P v ops K j (⟨dst, .assign x, ty, pos, af, none⟩ :: rest) tm σ := uQ (qD h) hcont
theorem S_add64 {dst : Option Tmp} {T T' : TypeId} {x y : Operand} {a b : Int} (hx : ev tm x = some (.int .i64 a)) (hy : ev tm y = some (.int .i64 b)) (h : -9223372036854775808 ≤ a + b ∧ a + b ≤ 9223372036854775807) (hcont : AO E.P v ops K (j + 1) rest (tm.putO dst (.int .i64 (a + b))) (σ.apply [])) : AO E.P v ops K j (⟨dst, .binOp .add T x y T', ty, pos, af, none⟩ :: rest) tm σ := uQ (sP hx hy h) hcont
theorem S_eql {dst : Option Tmp} {T T' : TypeId} {x y : Operand} {k : IntKind} {a b : Int} (hx : ev tm x = some (.int k a)) (hy : ev tm y = some (.int k b)) (hcont : AO E.P v ops K (j + 1) rest (tm.putO dst (.bool (decide (a = b)))) (σ.apply [])) : AO E.P v ops K j (⟨dst, .binOp .eql T x y T', ty, pos, af, none⟩ :: rest) tm σ := uQ (uAI hx hy) hcont
theorem uBK {dst : Option Tmp} {gd : Option (Nat × Bool)} {T T' : TypeId} {x y : Operand} {k : IntKind} {a b : Int} (hx : EvM tm x (.int k a)) (hy : EvM tm y (.int k b)) : YL E.P v j ⟨dst, .binOp .eql T x y T', ty, pos, af, gd⟩ tm σ [] (.bool (decide (a = b))) [] := (uAI hx.st hy.st).strip
theorem uBJ {dst : Option Tmp} {gd : Option (Nat × Bool)} {T T' : TypeId} {x y : Operand} {k : IntKind} {a b : Int} (hx : EvM tm x (.int k a)) (hy : EvM tm y (.int k b)) : YL E.P v j ⟨dst, .binOp .neq T x y T', ty, pos, af, gd⟩ tm σ [] (.bool (!decide (a = b))) [] := (uBD hx.st hy.st).strip
theorem S_lss {dst : Option Tmp} {T T' : TypeId} {x y : Operand} {k : IntKind} {a b : Int} (hx : ev tm x = some (.int k a)) (hy : ev tm y = some (.int k b)) (hcont : AO E.P v ops K (j + 1) rest (tm.putO dst (.bool (decide (a < b)))) (σ.apply [])) : AO E.P v ops K j (⟨dst, .binOp .lss T x y T', ty, pos, af, none⟩ :: rest) tm σ := uQ (uAH hx hy) hcont
theorem M_lss {dst : Option Tmp} {gd : Option (Nat × Bool)} {T T' : TypeId} {x y : Operand} {k : IntKind} {a b : Int} (hx : EvM tm x (.int k a)) (hy : EvM tm y (.int k b)) : YL E.P v j ⟨dst, .binOp .lss T x y T', ty, pos, af, gd⟩ tm σ [] (.bool (decide (a < b))) [] := (uAH hx.st hy.st).strip
theorem uAN {dst : Option Tmp} {gd : Option (Nat × Bool)} {T T' : TypeId} {x y : Operand} {k : IntKind} {a b : Int} (hx : EvM tm x (.int k a)) (hy : EvM tm y (.int k b)) : YL E.P v j ⟨dst, .binOp .leq T x y T', ty, pos, af, gd⟩ tm σ [] (.bool (decide (a ≤ b))) [] := (sO hx.st hy.st).strip
theorem M_gtr {dst : Option Tmp} {gd : Option (Nat × Bool)} {T T' : TypeId} {x y : Operand} {k : IntKind} {a b : Int} (hx : EvM tm x (.int k a)) (hy : EvM tm y (.int k b)) : YL E.P v j ⟨dst, .binOp .gtr T x y T', ty, pos, af, gd⟩ tm σ [] (.bool (decide (b < a))) [] := (uBH hx.st hy.st).strip
theorem M_not {dst : Option Tmp} {gd : Option (Nat × Bool)} {T : TypeId} {x : Operand} {b : Bool} (hx : EvM tm x (.bool b)) : YL E.P v j ⟨dst, .unOp .not T x, ty, pos, af, gd⟩ tm σ [] (.bool (!b)) [] := (uBC hx.st).strip
theorem S_fieldAddr_pt {dst : Option Tmp} {T : TypeId} {x : Operand} {f : Nat} {te fe : TE} {fs : List (Nat × TypeId)} {o : Nat} {ft : TypeId} {row : List TV} {p : Nat} (hT : E.tab T = some te) (hk : te.k = .st fs) (hf : fs[f]? = some (o, ft)) (hF : E.tab ft = some fe) (hz : fe.size ≠ 0) (hx : ev tm x = some (.d (.pt row p))) (hcont : AO E.P v ops K (j + 1) rest (tm.putO dst (.d (.pt row (p + o)))) (σ.apply [])) : AO E.P v ops K j (⟨dst, .fieldAddr T x f, ty, pos, af, none⟩ :: rest) tm σ := uQ (yV hT hk hf hF hz hx) hcont
theorem D_fieldAddr_pt {dst : Option Tmp} {T : TypeId} {x : Operand} {f : Nat} {te fe : TE} {fs : List (Nat × TypeId)} {o : Nat} {ft : TypeId} {row : List TV} {p : Nat} (hT : E.tab T = some te) (hk : te.k = .st fs) (hf : fs[f]? = some (o, ft)) (hF : E.tab ft = some fe) (hz : fe.size ≠ 0) (hx : ev tm x = some (.d (.pt row p))) (hcont : DO E.P v ops KD (j + 1) rest (tm.putO dst (.d (.pt row (p + o)))) (σ.apply []) (Foot.mk [] (wkeys []) :: acc)) : DO E.P v ops KD j (⟨dst, .fieldAddr T x f, ty, pos, af, none⟩ :: rest) tm σ acc := xA (yV hT hk hf hF hz hx) hcont
theorem cQ {dst : Option Tmp} {gd : Option (Nat × Bool)} {T : TypeId} {x : Operand} {f : Nat} {te fe : TE} {fs : List (Nat × TypeId)} {o : Nat} {ft : TypeId} {row : List TV} {p : Nat} (hT : E.tab T = some te) (hk : te.k = .st fs) (hf : fs[f]? = some (o, ft)) (hF : E.tab ft = some fe) (hz : fe.size ≠ 0) (hx : EvM tm x (.d (.pt row p))) : YL E.P v j ⟨dst, .fieldAddr T x f, ty, pos, af, gd⟩ tm σ [] (.d (.pt row (p + o))) [] := (yV hT hk hf hF hz hx.st).strip
theorem S_fieldAddr_lo {dst : Option Tmp} {T : TypeId} {x : Operand} {f : Nat} {te fe : TE} {fs : List (Nat × TypeId)} {o : Nat} {ft : TypeId} {k : Nat} {τ : Stamp} {s i p : Nat} (hT : E.tab T = some te) (hk : te.k = .st fs) (hf : fs[f]? = some (o, ft)) (hF : E.tab ft = some fe) (hz : fe.size ≠ 0) (hx : ev tm x = some (.lo k τ s i p)) (hcont : AO E.P v ops K (j + 1) rest (tm.putO dst (.lo k τ s i (p + o))) (σ.apply [])) : AO E.P v ops K j (⟨dst, .fieldAddr T x f, ty, pos, af, none⟩ :: rest) tm σ := uQ (yW hT hk hf hF hz hx) hcont
theorem D_fieldAddr_lo {dst : Option Tmp} {T : TypeId} {x : Operand} {f : Nat} {te fe : TE} {fs : List (Nat × TypeId)} {o : Nat} {ft : TypeId} {k : Nat} {τ : Stamp} {s i p : Nat} (hT : E.tab T = some te) (hk : te.k = .st fs) (hf : fs[f]? = some (o, ft)) (hF : E.tab ft = some fe) (hz : fe.size ≠ 0) (hx : ev tm x = some (.lo k τ s i p)) (hcont : DO E.P v ops KD (j + 1) rest (tm.putO dst (.lo k τ s i (p + o))) (σ.apply []) (Foot.mk [] (wkeys []) :: acc)) : DO E.P v ops KD j (⟨dst, .fieldAddr T x f, ty, pos, af, none⟩ :: rest) tm σ acc := xA (yW hT hk hf hF hz hx) hcont
theorem cR {dst : Option Tmp} {gd : Option (Nat × Bool)} {T : TypeId} {x : Operand} {f : Nat} {te fe : TE} {fs : List (Nat × TypeId)} {o : Nat} {ft : TypeId} {k : Nat} {τ : Stamp} {s i p : Nat} (hT : E.tab T = some te) (hk : te.k = .st fs) (hf : fs[f]? = some (o, ft)) (hF : E.tab ft = some fe) (hz : fe.size ≠ 0) (hx : EvM tm x (.lo k τ s i p)) : YL E.P v j ⟨dst, .fieldAddr T x f, ty, pos, af, gd⟩ tm σ [] (.lo k τ s i (p + o)) [] := (yW hT hk hf hF hz hx.st).strip
theorem cP {dst : Option Tmp} {gd : Option (Nat × Bool)} {T : TypeId} {x ix : Operand} {te ee : TE} {e : TypeId} {k : IntKind} {i : Int} {s : Nat} {rows : List (List TV)} {row : List TV} (hT : E.tab T = some te) (hk : te.k = .slice e) (hE : E.tab e = some ee) (hs : ee.size = s) (hx : EvM tm x (.d (.sl s rows))) (hi : EvM tm ix (.int k i)) (h0 : 0 ≤ i) (hr : rows[i.toNat]? = some row) : YL E.P v j ⟨dst, .indexAddr T x ix, ty, pos, af, gd⟩ tm σ [] (.d (.pt row 0)) [] := (cN hT hk hE hs hx.st hi.st h0 hr).strip
theorem aI {dst : Option Tmp} {x : Operand} {y : OV} (hy : (match y with | .lo .. => true | .d (.pt ..) => true | .fn .. => true | .d (.fn ..) => true | _ => false) = true) (hx : ev tm x = some y) (hcont : AO E.P v ops K (j + 1) rest (tm.putO dst y) (σ.apply [])) : AO E.P v ops K j (⟨dst, .nilCheck x, ty, pos, af, none⟩ :: rest) tm σ := uQ (eR hy hx) hcont
theorem vI {dst : Option Tmp} {x : Operand} {y : OV} (hy : (match y with | .lo .. => true | .d (.pt ..) => true | .fn .. => true | .d (.fn ..) => true | _ => false) = true) (hx : ev tm x = some y) (hcont : DO E.P v ops KD (j + 1) rest (tm.putO dst y) (σ.apply []) (Foot.mk [] (wkeys []) :: acc)) : DO E.P v ops KD j (⟨dst, .nilCheck x, ty, pos, af, none⟩ :: rest) tm σ acc := xA (eR hy hx) hcont
theorem S_load_pt {dst : Option Tmp} {T : TypeId} {x : Operand} {te : TE} {row : List TV} {p : Nat} {t : TV} (hT : E.tab T = some te) (ha : te.k.isAgg = false) (hx : ev tm x = some (.d (.pt row p))) (ht : row[p]? = some t) (hcont : AO E.P v ops K (j + 1) rest (tm.putO dst (.d t)) (σ.apply [])) : AO E.P v ops K j (⟨dst, .load T x, ty, pos, af, none⟩ :: rest) tm σ := uQ (dO hT ha hx ht) hcont
theorem D_load_pt {dst : Option Tmp} {T : TypeId} {x : Operand} {te : TE} {row : List TV} {p : Nat} {t : TV} (hT : E.tab T = some te) (ha : te.k.isAgg = false) (hx : ev tm x = some (.d (.pt row p))) (ht : row[p]? = some t) (hcont : DO E.P v ops KD (j + 1) rest (tm.putO dst (.d t)) (σ.apply []) (Foot.mk [] (wkeys []) :: acc)) : DO E.P v ops KD j (⟨dst, .load T x, ty, pos, af, none⟩ :: rest) tm σ acc := xA (dO hT ha hx ht) hcont
theorem mO {dst : Option Tmp} {gd : Option (Nat × Bool)} {T : TypeId} {x : Operand} {te : TE} {row : List TV} {p : Nat} {t : TV} (hT : E.tab T = some te) (ha : te.k.isAgg = false) (hx : EvM tm x (.d (.pt row p))) (ht : row[p]? = some t) : YL E.P v j ⟨dst, .load T x, ty, pos, af, gd⟩ tm σ [] (.d t) [] := (dO hT ha hx.st ht).strip
theorem S_load_ptA {dst : Option Tmp} {T : TypeId} {x : Operand} {te : TE} {row : List TV} {p : Nat} (hT : E.tab T = some te) (ha : te.k.isAgg = true) (hx : ev tm x = some (.d (.pt row p))) (hl : p + te.size ≤ row.length) (hcont : AO E.P v ops K (j + 1) rest (tm.putO dst (.ag (((row.drop p).take te.size).map .d))) (σ.apply [])) : AO E.P v ops K j (⟨dst, .load T x, ty, pos, af, none⟩ :: rest) tm σ := uQ (eS hT ha hx hl) hcont
theorem M_load_ptA {dst : Option Tmp} {gd : Option (Nat × Bool)} {T : TypeId} {x : Operand} {te : TE} {row : List TV} {p : Nat} (hT : E.tab T = some te) (ha : te.k.isAgg = true) (hx : EvM tm x (.d (.pt row p))) (hl : p + te.size ≤ row.length) : YL E.P v j ⟨dst, .load T x, ty, pos, af, gd⟩ tm σ [] (.ag (((row.drop p).take te.size).map .d)) [] := (eS hT ha hx.st hl).strip
theorem wD {dst : Option Tmp} {T : TypeId} {x : Operand} {te : TE} {k : Nat} {τ : Stamp} {s i p : Nat} {rows : List (List OV)} {row : List OV} {y : OV} (hT : E.tab T = some te) (ha : te.k.isAgg = false) (hx : ev tm x = some (.lo k τ s i p)) (hs : σ k = some (τ, ⟨s, rows⟩)) (hr : rows[i]? = some row) (hy : row[p]? = some y) (hcont : AO E.P v ops K (j + 1) rest (tm.putO dst y) (σ.apply [])) : AO E.P v ops K j (⟨dst, .load T x, ty, pos, af, none⟩ :: rest) tm σ := uQ (dP hT ha hx hs hr hy) hcont
theorem dR {dst : Option Tmp} {T : TypeId} {x : Operand} {te : TE} {k : Nat} {τ : Stamp} {s i p : Nat} {rows : List (List OV)} {row : List OV} {y : OV} (hT : E.tab T = some te) (ha : te.k.isAgg = false) (hx : ev tm x = some (.lo k τ s i p)) (hs : σ k = some (τ, ⟨s, rows⟩)) (hr : rows[i]? = some row) (hy : row[p]? = some y) (hcont : DO E.P v ops KD (j + 1) rest (tm.putO dst y) (σ.apply []) (Foot.mk [k] (wkeys []) :: acc)) : DO E.P v ops KD j (⟨dst, .load T x, ty, pos, af, none⟩ :: rest) tm σ acc := xA (dP hT ha hx hs hr hy) hcont
theorem gT {dst : Option Tmp} {gd : Option (Nat × Bool)} {T : TypeId} {x : Operand} {te : TE} {k : Nat} {τ : Stamp} {s i p : Nat} {rows : List (List OV)} {row : List OV} {y : OV} (hT : E.tab T = some te) (ha : te.k.isAgg = false) (hx : EvM tm x (.lo k τ s i p)) (hs : σ k = some (τ, ⟨s, rows⟩)) (hr : rows[i]? = some row) (hy : row[p]? = some y) : YL E.P v j ⟨dst, .load T x, ty, pos, af, gd⟩ tm σ [k] y [] := (dP hT ha hx.st hs hr hy).strip
theorem S_load_loA {dst : Option Tmp} {T : TypeId} {x : Operand} {te : TE} {k : Nat} {τ : Stamp} {s i p : Nat} {rows : List (List OV)} {row : List OV} (hT : E.tab T = some te) (ha : te.k.isAgg = true) (hx : ev tm x = some (.lo k τ s i p)) (hs : σ k = some (τ, ⟨s, rows⟩)) (hr : rows[i]? = some row) (hl : p + te.size ≤ row.length) (hcont : AO E.P v ops K (j + 1) rest (tm.putO dst (.ag ((row.drop p).take te.size))) (σ.apply [])) : AO E.P v ops K j (⟨dst, .load T x, ty, pos, af, none⟩ :: rest) tm σ := uQ (eT hT ha hx hs hr hl) hcont
theorem M_load_loA {dst : Option Tmp} {gd : Option (Nat × Bool)} {T : TypeId} {x : Operand} {te : TE} {k : Nat} {τ : Stamp} {s i p : Nat} {rows : List (List OV)} {row : List OV} (hT : E.tab T = some te) (ha : te.k.isAgg = true) (hx : EvM tm x (.lo k τ s i p)) (hs : σ k = some (τ, ⟨s, rows⟩)) (hr : rows[i]? = some row) (hl : p + te.size ≤ row.length) : YL E.P v j ⟨dst, .load T x, ty, pos, af, gd⟩ tm σ [k] (.ag ((row.drop p).take te.size)) [] := (eT hT ha hx.st hs hr hl).strip
theorem S_build {d : Option Nat} {T : TypeId} {parts : List (Nat × Operand)} {te : TE} {fs : List (Nat × TypeId)} {ys : List (Nat × OV)} {cs : List OV} (hT : E.tab T = some te) (hk : te.k = .st fs) (hfs : (fs.all fun f => (E.tab f.2).isSome) = true) (hp : evParts tm parts = some ys) (hc : fillO (fun i => (fs[i]?).map fun f : Nat × TypeId => (f.1, sizeT E f.2)) (consts te.zero) ys = some cs) (hcont : AO E.P v ops K (j + 1) rest (tm.putO d (.ag cs)) (σ.apply [])) : AO E.P v ops K j (⟨d, .build T parts.toArray, ty, pos, af, none⟩ :: rest) tm σ := uQ (nY hT hk hfs hp hc) hcont
theorem dQ {d : Option Nat} {T : TypeId} {x z : Operand} {te : TE} {k : Nat} {τ : Stamp} {s i p : Nat} {rows : List (List OV)} {row : List OV} {y : OV} (hT : E.tab T = some te) (hx : ev tm x = some (.lo k τ s i p)) (hz : ev tm z = some y) (hw' : y.wide = true) (hn : y.cells.length = te.size) (hs : σ k = some (τ, ⟨s, rows⟩)) (hr : rows[i]? = some row) (hp : p + te.size ≤ row.length) (hcont : AO E.P v ops K (j + 1) rest (tm.putO d .un) (σ.apply [(k, some (τ, ⟨s, rows.set i (setAt row p y.cells)⟩))])) : AO E.P v ops K j (⟨d, .store T x z, ty, pos, af, none⟩ :: rest) tm σ := uQ (iX hT hx hz hw' hn hs hr hp) hcont
theorem yB {d : Option Nat} {T : TypeId} {x z : Operand} {te : TE} {k : Nat} {τ : Stamp} {s i p : Nat} {rows : List (List OV)} {row : List OV} {y : OV} (hT : E.tab T = some te) (hx : ev tm x = some (.lo k τ s i p)) (hz : ev tm z = some y) (hw' : y.wide = true) (hn : y.cells.length = te.size) (hs : σ k = some (τ, ⟨s, rows⟩)) (hr : rows[i]? = some row) (hp : p + te.size ≤ row.length) (hcont : DO E.P v ops KD (j + 1) rest (tm.putO d .un) (σ.apply [(k, some (τ, ⟨s, rows.set i (setAt row p y.cells)⟩))]) (Foot.mk [k] (wkeys [(k, some (τ, ⟨s, rows.set i (setAt row p y.cells)⟩))]) :: acc)) : DO E.P v ops KD j (⟨d, .store T x z, ty, pos, af, none⟩ :: rest) tm σ acc := xA (iX hT hx hz hw' hn hs hr hp) hcont
theorem M_len {gd : Option (Nat × Bool)} {d : Option Nat} {T e : TypeId} {te : TE} {x : Operand} {y : OV} {n : Nat} (hT : E.tab T = some te) (hk : te.k = .slice e) (hx : EvM tm x y) (hn : ∀ (G : Gh) (u : Value), RepO G y u → ∃ a c, u = .slice a n c) : YL E.P v j ⟨d, .call { callee := .builtin .len, args := #[x], argTypes := #[T] }, ty, pos, af, gd⟩ tm σ [] (.int .i64 n) [] := (uBG hT hk hx.st hn).strip
theorem uE {dst : Option Tmp} {x : Operand} {xs : List Operand} {tys : Array TypeId} {y : OV} {f : FuncId} {fi ca ys : List OV} {r : OV} (hx : ev tm x = some y) (hf : IsFn y f fi ca) (ha : evs tm xs = some ys) (hc : Pure E.P f (fi ++ ys ++ ca) r) (hcont : AO E.P v ops K (j + 1) rest (tm.putO dst r) (σ.apply [])) : AO E.P v ops K j (⟨dst, .call { callee := .value x, args := xs.toArray, argTypes := tys }, ty, pos, af, none⟩ :: rest) tm σ := uQ (qT hx hf ha hc) hcont
theorem vJ {dst : Option Tmp} {x : Operand} {xs : List Operand} {tys : Array TypeId} {y : OV} {f : FuncId} {fi ca ys : List OV} {r : OV} (hx : ev tm x = some y) (hf : IsFn y f fi ca) (ha : evs tm xs = some ys) (hc : Pure E.P f (fi ++ ys ++ ca) r) (hcont : DO E.P v ops KD (j + 1) rest (tm.putO dst r) (σ.apply []) (Foot.mk [] (wkeys []) :: acc)) : DO E.P v ops KD j (⟨dst, .call { callee := .value x, args := xs.toArray, argTypes := tys }, ty, pos, af, none⟩ :: rest) tm σ acc := xA (qT hx hf ha hc) hcont
theorem uZ {dst : Option Tmp} {gd : Option (Nat × Bool)} {x : Operand} {xs : List Operand} {tys : Array TypeId} {y : OV} {f : FuncId} {fi ca ys : List OV} {r : OV} (hx : EvM tm x y) (hf : IsFn y f fi ca) (ha : EvsM tm xs ys) (hc : Pure E.P f (fi ++ ys ++ ca) r) : YL E.P v j ⟨dst, .call { callee := .value x, args := xs.toArray, argTypes := tys }, ty, pos, af, gd⟩ tm σ [] r [] := (qT hx.st hf ha.st hc).strip
end
end
section
attribute [local semireducible] NextOk
structure Stuck (p : Prop) : Prop where
 out : p
def LeafR (rows : List (List OV)) : Prop := ∀ r ∈ rows, ∀ y ∈ r, y.leaf = true
theorem LeafR.d (rows : List (List TV)) : LeafR (rows.map fun r => r.map .d) := fun r hr y hy => by
 obtain ⟨r', _, rfl⟩ := List.mem_map.1 hr
 obtain ⟨t, _, rfl⟩ := List.mem_map.1 hy
 rfl
theorem LeafR.take {rows : List (List OV)} (n : Nat) (h : LeafR rows) : LeafR (rows.take n) := fun r hr => h r (List.mem_of_mem_take hr)
theorem LeafR.drop {rows : List (List OV)} (n : Nat) (h : LeafR rows) : LeafR (rows.drop n) := fun r hr => h r (List.mem_of_mem_drop hr)
theorem LeafR.app {a b : List (List OV)} (h : LeafR a) (h' : LeafR b) : LeafR (a ++ b) := fun r hr => by
 rcases List.mem_append.1 hr with hr | hr
 ·exact h r hr
 ·exact h' r hr
theorem LeafR.lit {rows : List (List OV)} (h : rows.all (fun r => r.all OV.leaf) = true) : LeafR rows := fun r hr y hy => List.all_eq_true.1 (List.all_eq_true.1 h r hr) y hy
theorem LeafR.nil : LeafR [] := fun r hr => by cases hr
theorem LeafR.one {y : OV} (h : y.leaf = true) : LeafR [[y]] := fun r hr z hz => by
 simp only [List.mem_singleton] at hr; subst hr
 simp only [List.mem_singleton] at hz; subst hz
 exact h
theorem LeafR.map {α : Type} {f : α → List OV} (l : List α) (h : ∀ a, ∀ y ∈ f a, y.leaf = true) : LeafR (l.map f) := fun r hr => by
 obtain ⟨a, _, rfl⟩ := List.mem_map.1 hr
 exact h a
def cellO (k : IntKind) (a : Int) : List OV := [.int k a]
theorem LeafR.cells (k : IntKind) (l : List Int) : LeafR (l.map (cellO k)) := LeafR.map l fun a y hy => by
 simp only [cellO, List.mem_singleton] at hy; subst hy; rfl
theorem vP {d k s n m : Nat} {τ : Stamp} {l : List (Nat × OV)} {tm : Tm} (h : tm d = some (.os k τ s m)) (e : m = n) (hl : (tmL l).le tm) : (tmL ((d, .os k τ s n) :: l)).le tm := uL (by rw [h, e]) hl
theorem uO {d : Nat} {k : IntKind} {a b : Int} {l : List (Nat × OV)} {tm : Tm} (h : tm d = some (.int k a)) (e : a = b) (hl : (tmL l).le tm) : (tmL ((d, .int k b) :: l)).le tm := uL (by rw [h, e]) hl
theorem uP {d s : Nat} {τ : Stamp} {rows rows' : List (List OV)} {l : List (Nat × (Stamp × Row))} {σ : Store} (h : σ d = some (τ, ⟨s, rows⟩)) (e : rows = rows') (hl : (stL l).le σ) : (stL ((d, (τ, ⟨s, rows'⟩)) :: l)).le σ := uY (by rw [h, e]) hl
theorem own_done {t d s : Nat} {τ : Stamp} {n : Nat} {rows rows' : List (List OV)} {tm : Tm} {σ : Store} (h : tm t = some (.os d τ s n)) (hs : σ d = some (τ, ⟨s, rows⟩)) (e : rows = rows') (hn : n = rows.length) : Done t (IsOwn s rows') .ret tm σ := by
 subst e; subst hn
 exact wQ h ⟨d, τ, rfl, hs⟩
theorem uU {X : Type} {T : X → Tm} {S : X → Store} {I : X → Prop} {μ : X → Nat} {m : Nat} {tm : Tm} {σ : Store} (y : X) (hI : I y) (hμ : μ y < m) (ht : (T y).le tm) (hs : (S y).le σ) : ∃ y, I y ∧ μ y < m ∧ (T y).le tm ∧ (S y).le σ := ⟨y, hI, hμ, ht, hs⟩
theorem WRel.del {Γ : Ctx} {G : Gh} {σ : Store} {w : World} (h : WRel Γ G σ w) (k : Nat) : WRel Γ G (σ.del k) w := h.forget fun j y hj => by
 unfold Store.del at hj
 cases hb : Nat.beq j k with
 | true => rw [hb] at hj; cases hj
 | false => rw [hb] at hj; exact hj
theorem WRel.rename {Γ : Ctx} {G : Gh} {σ : Store} {w : World} (h : WRel Γ G σ w) {k d v j : Nat} {τ : Stamp} {r : Row} (hk : σ k = some (τ, r)) (hv : Γ.N ≤ v) (hf : G.μ d (v, j) = none) :
  ∃ β, G.μ k τ = some β ∧ WRel Γ (G.name d (v, j) β) ((σ.del k).put d ((v, j), r)) w := by
 rcases h.own k τ r hk with ⟨h1, h2⟩ | ⟨β, h1, h2, h3, h4⟩
 ·refine ⟨none, h1, ?_⟩
  obtain ⟨s, rows⟩ := r
  simp only at h2
  subst h2
  exact (h.del k).phantom d hv hf s
 ·refine ⟨some β, h1, (h.del k).named hv hf (Nat.le_refl _) rfl rfl rfl (fun _ _ _ => rfl) h2 h3 h4 ?_⟩
  intro k' τ' r' β' hne hk' hμ' e
  have hkk : k' ≠ k := fun e' => by subst e'; simp [Store.del] at hk'
  have hk2 : σ k' = some (τ', r') := by
   unfold Store.del at hk'
   cases hb : Nat.beq k' k with
   | true => exact (hkk (Nat.eq_of_beq_eq_true hb)).elim
   | false => rw [hb] at hk'; exact hk'
  exact hkk (h.inj k' k τ' τ β' β r' r hk2 hk hμ' h1 e)
section
variable {E : Env} {v j : Nat} {ops : Array Oper} {K : Tm → Store → Prop} {KD : List Foot → Tm → Store → Prop} {acc : List Foot} {rest : List Oper} {tm : Tm} {σ : Store} {ty : TypeId} {pos : String} {af : Array Edge} {gd : Option (Nat × Bool)}
theorem uAF {d : Nat} {e : TypeId} {te ee : TE} {s : Nat} (hT : E.tab ty = some te) (hk : te.k = .slice e) (hE : E.tab e = some ee) (hs : ee.size = s) :
  YL E.P v j ⟨some d, .assign (.const (.slice none 0 0)), ty, pos, af, gd⟩ tm σ [] (.os d (v, j) s 0) [(d, some ((v, j), ⟨s, []⟩))] := fun σ _ Γ G ρ w hv hfr hρ hw => by
 have hr := hρ (.const (.slice none 0 0)) (by simp [Op.operands]) (.d (.c (.slice none 0 0))) (by rfl)
 have h1 := vA hr
 have h2 : (execOp ρ ⟨some d, .assign (.const (.slice none 0 0)), ty, pos, af, gd⟩).run E.P w = .ok (.value (.slice none 0 0)) w := by
  simp [execOp, h1]
 rw [h2]
 refine ⟨_, Gh.name_le G none (hfr d), ?_, ?_, hw.phantom d hv (hfr d) s⟩
 ·intro k' v' i hv' hi
  exact xF G d v j _ k' v' i hv' hi
 ·rw [RepO]
  exact Or.inr ⟨Gh.name_self _ _ _ _, rfl, rfl⟩
theorem S_nilA {d : Nat} {e : TypeId} {te ee : TE} {s : Nat} (hT : E.tab ty = some te) (hk : te.k = .slice e) (hE : E.tab e = some ee) (hs : ee.size = s)
  (hcont : AO E.P v ops K (j + 1) rest (tm.putO (some d) (.os d (v, j) s 0)) (σ.apply [(d, some ((v, j), ⟨s, []⟩))])) : AO E.P v ops K j (⟨some d, .assign (.const (.slice none 0 0)), ty, pos, af, none⟩ :: rest) tm σ := uQ (uAF hT hk hE hs) hcont
theorem uAE {d k n s : Nat} {τ : Stamp} {x : Operand} {rows : List (List OV)} (hx : ev tm x = some (.os k τ s n)) (hs : σ k = some (τ, ⟨s, rows⟩)) :
  YL E.P v j ⟨some d, .assign x, ty, pos, af, gd⟩ tm σ [k] (.os d (v, j) s n) [(k, none), (d, some ((v, j), ⟨s, rows⟩))] := fun σ' hσ Γ G ρ w hv hfr hρ hw => by
 have hs' : σ' k = some (τ, ⟨s, rows⟩) := by rw [hσ k (by simp)]; exact hs
 have hr := hρ x (by simp [Op.operands]) _ hx
 have h2 : (execOp ρ ⟨some d, .assign x, ty, pos, af, gd⟩).run E.P w = .ok (.value (ρ x)) w := by
  simp [execOp]
 rw [h2]
 obtain ⟨β, h1, h3⟩ := hw.rename hs' hv (hfr d)
 refine ⟨_, Gh.name_le G β (hfr d), ?_, ?_, h3⟩
 ·intro k' v' i hv' hi
  exact xF G d v j _ k' v' i hv' hi
 ·rw [RepO] at hr ⊢
  rcases hr with ⟨β', c, g1, g2, g3, g4, g5⟩ | ⟨g1, g2, g3⟩
  ·rw [h1] at g1; cases g1
   exact Or.inl ⟨β', c, Gh.name_self _ _ _ _, g2, g3, g4, g5⟩
  ·rw [h1] at g1; cases g1
   exact Or.inr ⟨Gh.name_self _ _ _ _, g2, g3⟩
end
end
variable {P : Program} {f : FuncId} {c : Code} {args cs fi ca : List OV} {R : OV → Store → Prop} {tm tm' : Tm} {x : Operand} {y r : OV} {p s : Nat} {te fe : TE} {fs : List (Nat × TypeId)} {o : Oper} {ft e : TypeId} {τ : Stamp} {row : List TV} {t : TV} {ys : List (Nat × OV)} {G : Gh} {Γ : Ctx} {σ' σ σ0 : Store} {w : World} {C : Cx} {a : List (List OV)} {b : List (List TV)} {xs : List Operand} {tys : Array TypeId} {ρ : Operand → Value} {Q : Exit → Tm → Store → Prop} {X : Type} {vs : List ResultVar} {ks : List Nat} {δ : Diff}
theorem nrm : (∀ b : Bool, ((!b) = true) = (b = false)) ∧ (∀ b : Bool, ((!b) = false) = (b = true)) ∧ (∀ a b : Bool, ((a || b) = true) = (a = true ∨ b = true)) ∧ (∀ a b : Bool, ((a && b) = true) = (a = true ∧ b = true)) ∧
  (∀ a b : Bool, ((a || b) = false) = (a = false ∧ b = false)) ∧ (∀ a b : Bool, ((a && b) = false) = (a = false ∨ b = false)) ∧ (∀ (p : Prop) [Decidable p], (decide p = true) = p) ∧ (∀ (p : Prop) [Decidable p], (decide p = false) = ¬ p) ∧
  (∀ (p : Prop) [Decidable p], (¬¬ p) = p) ∧ (∀ a b : Int, (¬ a < b) = (b ≤ a)) ∧ (∀ a b : Int, (¬ a ≤ b) = (b < a)) ∧ ((!true) = false) ∧ ((!false) = true) ∧ (∀ b : Bool, (true && b) = b) ∧ (∀ b : Bool, (b && true) = b) ∧ (∀ b : Bool, (false || b) = b) ∧ (∀ b : Bool, (b || false) = b) ∧
  (∀ b : Bool, (true || b) = true) ∧ (∀ b : Bool, (false && b) = false) ∧ (∀ (α : Type) [BEq α] [LawfulBEq α] (a b : α), ((a != b) = false) = (a = b)) ∧ (∀ (α : Type) [BEq α] [LawfulBEq α] (a b : α), ((a != b) = true) = (a ≠ b)) ∧ (∀ (α : Type) [BEq α] [LawfulBEq α] (a b : α), ((a == b) = true) = (a = b)) ∧
  (∀ (α : Type) [BEq α] [LawfulBEq α] (a b : α), ((a == b) = false) = (a ≠ b)) ∧ (∀ (p q : Prop) [Decidable p] [Decidable q], (decide p = decide q) = (p ↔ q)) := by
 refine ⟨fun b => by simp, fun b => by simp, fun a b => by simp, fun a b => by simp, fun a b => by simp, fun a b => by cases a <;> cases b <;> simp, fun p _ => by simp, fun p _ => by simp, fun p _ => by simp, fun a b => by simp, fun a b => by simp, rfl, rfl, fun b => by simp, fun b => by simp, fun b => by simp, fun b => by simp, fun b => by simp, fun b => by simp, fun α _ _ a b => by simp, fun α _ _ a b => by simp, fun α _ _ a b => by simp, fun α _ _ a b => by simp, fun p q _ _ => by simp⟩
theorem fnA {fn : Func} {n t : Nat} (hf : P.funcs[f]? = some fn) (hn : fn.ntmps = n) (h : awp P n c (Done t R) (Tm.ini args) Store.nil) (hname : (fn.name == "runtime.NumGoroutine") = false := by decide) (hb : fn.body = some c := by exact rfl) (hl : args.length ≤ n := by exact Nat.le_of_ble_eq_true rfl) (hr : fn.results = #[.tmp t] := by exact rfl) : FnR P f args R := fn_of_awp hf hname hb hn hl hr h
theorem evm (h : EvM tm x y := by (first | (refine EvM.mb _ rfl ?_; first | assumption | exact rfl) | exact EvM.plain rfl rfl)) : EvM tm x y := h
theorem wP {p : Prop} (h : p := by repeat' (first | exact EvsM.nil | (apply EvsM.cons; first | (refine EvM.mb _ rfl ?_; first | assumption | exact rfl) | exact EvM.plain rfl rfl))) : p := h
section
variable {P : Program} {v n j g id : Nat} {ops : Array Oper} {Q : Exit → Tm → Store → Prop} {K : Tm → Store → Prop} {KD : List Foot → Tm → Store → Prop} {acc : List Foot} {rest : List Oper} {tm : Tm} {σ : Store} {ty : TypeId} {pos : String} {af : Array Edge} {dst : Option Tmp} {op : Op} {d : Nat} {b : Bool} {ks : List Nat} {r : OV}
theorem spT (h0 : ((ops[g]?).bind (·.dst)).bind tm = some (.bool b)) (hy : b = true → YL P v j ⟨dst, op, ty, pos, af, some (g, true)⟩ tm σ ks r []) (h : AO P v ops K (j + 1) rest (tm.putO dst (.mb b r)) σ) : AO P v ops K j (⟨dst, op, ty, pos, af, some (g, true)⟩ :: rest) tm σ := by
 obtain ⟨d, hd, ht⟩ := Option.bind_eq_some_iff.mp h0; exact sV hd ht hy h
theorem spF (h0 : ((ops[g]?).bind (·.dst)).bind tm = some (.bool b)) (hy : (!b) = true → YL P v j ⟨dst, op, ty, pos, af, some (g, false)⟩ tm σ ks r []) (h : AO P v ops K (j + 1) rest (tm.putO dst (.mb (!b) r)) σ) : AO P v ops K j (⟨dst, op, ty, pos, af, some (g, false)⟩ :: rest) tm σ := by
 obtain ⟨d, hd, ht⟩ := Option.bind_eq_some_iff.mp h0; exact sW hd ht hy h
theorem dpT (h0 : ((ops[g]?).bind (·.dst)).bind tm = some (.bool b)) (hy : b = true → YL P v j ⟨dst, op, ty, pos, af, some (g, true)⟩ tm σ ks r []) (h : DO P v ops KD (j + 1) rest (tm.putO dst (.mb b r)) σ (⟨ks, []⟩ :: acc)) : DO P v ops KD j (⟨dst, op, ty, pos, af, some (g, true)⟩ :: rest) tm σ acc := by
 obtain ⟨d, hd, ht⟩ := Option.bind_eq_some_iff.mp h0; exact sG hd ht hy h
theorem dpF (h0 : ((ops[g]?).bind (·.dst)).bind tm = some (.bool b)) (hy : (!b) = true → YL P v j ⟨dst, op, ty, pos, af, some (g, false)⟩ tm σ ks r []) (h : DO P v ops KD (j + 1) rest (tm.putO dst (.mb (!b) r)) σ (⟨ks, []⟩ :: acc)) : DO P v ops KD j (⟨dst, op, ty, pos, af, some (g, false)⟩ :: rest) tm σ acc := by
 obtain ⟨d, hd, ht⟩ := Option.bind_eq_some_iff.mp h0; exact sH hd ht hy h
theorem aoR {l : List Oper} (h : ∀ v, AO P v l.toArray (Q .normal) 0 l tm σ) (hn : dstsLt n l = true := by exact rfl) : awp P n (.region id l.toArray false) Q tm σ := ao_region hn h
theorem cnd {c : Operand} {x y : Code} (h1 : b = true → awp P n x Q tm σ) (h2 : b = false → awp P n y Q tm σ) (hc : ev tm c = some (.bool b) := by exact rfl) : awp P n (.cond c x y) Q tm σ := uK hc h1 h2
end
theorem leP {p : Prop} (h : p := by repeat' (first | exact vW _ | exact uS _ | refine uL rfl ?_ | refine uY rfl ?_)) : p := h
section
variable {E : Env} {v j : Nat} {ops : Array Oper} {K : Tm → Store → Prop} {KD : List Foot → Tm → Store → Prop} {acc : List Foot} {rest : List Oper} {tm : Tm} {σ : Store} {ty : TypeId} {pos : String} {af : Array Edge} {gd : Option (Nat × Bool)} {dst : Option Tmp}
theorem q1 {dst : Option Tmp} {gd : Option (Nat × Bool)} (h : EvM tm x y := by exact evm) : YL E.P v j ⟨dst, .move x, ty, pos, af, gd⟩ tm σ [] y [] := uAM h
theorem q2 {dst : Option Tmp} {gd : Option (Nat × Bool)} {T : TypeId} {f : Nat} {o : Nat} {k : Nat} {i : Nat} (hT : E.tab T = some te := by exact rfl) (hk : te.k = .st fs := by exact rfl) (hf : fs[f]? = some (o, ft) := by exact rfl) (hF : E.tab ft = some fe := by exact rfl) (hz : fe.size ≠ 0 := by decide) (hx : EvM tm x (.lo k τ s i p) := by exact evm) : YL E.P v j ⟨dst, .fieldAddr T x f, ty, pos, af, gd⟩ tm σ [] (.lo k τ s i (p + o)) [] := cR hT hk hf hF hz hx
theorem q3 {dst : Option Tmp} {gd : Option (Nat × Bool)} {T : TypeId} {k : Nat} {i : Nat} {rows : List (List OV)} {row : List OV} (hT : E.tab T = some te := by exact rfl) (ha : te.k.isAgg = false := by exact rfl) (hx : EvM tm x (.lo k τ s i p) := by exact evm) (hs : σ k = some (τ, ⟨s, rows⟩) := by exact rfl) (hr : rows[i]? = some row := by exact rfl) (hy : row[p]? = some y := by exact rfl) : YL E.P v j ⟨dst, .load T x, ty, pos, af, gd⟩ tm σ [k] y [] := gT hT ha hx hs hr hy
theorem q5 {dst : Option Tmp} {gd : Option (Nat × Bool)} {T : TypeId} {ix : Operand} {ee : TE} {k : IntKind} {i : Int} {rows : List (List TV)} (hT : E.tab T = some te := by exact rfl) (hk : te.k = .slice e := by exact rfl) (hE : E.tab e = some ee := by exact rfl) (hs : ee.size = s := by exact rfl) (hx : EvM tm x (.d (.sl s rows)) := by exact evm) (hi : EvM tm ix (.int k i) := by exact evm) (h0 : 0 ≤ i := by omega) (hr : rows[i.toNat]? = some row := by (first | exact rY (by omega) | exact uW (by omega) default | assumption)) : YL E.P v j ⟨dst, .indexAddr T x ix, ty, pos, af, gd⟩ tm σ [] (.d (.pt row 0)) [] := cP hT hk hE hs hx hi h0 hr
theorem q6 {dst : Option Tmp} {gd : Option (Nat × Bool)} {T : TypeId} (hT : E.tab T = some te := by exact rfl) (ha : te.k.isAgg = false := by exact rfl) (hx : EvM tm x (.d (.pt row p)) := by exact evm) (ht : row[p]? = some t := by exact rfl) : YL E.P v j ⟨dst, .load T x, ty, pos, af, gd⟩ tm σ [] (.d t) [] := mO hT ha hx ht
theorem q7 {dst : Option Tmp} {gd : Option (Nat × Bool)} {T T' : TypeId} {y : Operand} {k : IntKind} {a b : Int} (hx : EvM tm x (.int k a) := by exact evm) (hy : EvM tm y (.int k b) := by exact evm) : YL E.P v j ⟨dst, .binOp .eql T x y T', ty, pos, af, gd⟩ tm σ [] (.bool (decide (a = b))) [] := uBK hx hy
theorem q8 {dst : Option Tmp} {gd : Option (Nat × Bool)} {T : TypeId} {f : Nat} {o : Nat} (hT : E.tab T = some te := by exact rfl) (hk : te.k = .st fs := by exact rfl) (hf : fs[f]? = some (o, ft) := by exact rfl) (hF : E.tab ft = some fe := by exact rfl) (hz : fe.size ≠ 0 := by decide) (hx : EvM tm x (.d (.pt row p)) := by exact evm) : YL E.P v j ⟨dst, .fieldAddr T x f, ty, pos, af, gd⟩ tm σ [] (.d (.pt row (p + o))) [] := cQ hT hk hf hF hz hx
theorem q11 {dst : Option Tmp} (hcont : AO E.P v ops K (j + 1) rest (tm.putO dst y) (σ.apply [])) (h : ev tm x = some y := by exact rfl) : AO E.P v ops K j (⟨dst, .move x, ty, pos, af, none⟩ :: rest) tm σ := S_move h hcont
theorem q12 {dst : Option Tmp} (hcont : AO E.P v ops K (j + 1) rest (tm.putO dst y) (σ.apply [])) (h : ev tm x = some y := by exact rfl) : AO E.P v ops K j (⟨dst, .assign x, ty, pos, af, none⟩ :: rest) tm σ := S_assign h hcont
theorem q14 {dst : Option Tmp} {T : TypeId} {k : Nat} {i : Nat} {rows : List (List OV)} {row : List OV} (hcont : AO E.P v ops K (j + 1) rest (tm.putO dst (.ag ((row.drop p).take te.size))) (σ.apply [])) (hT : E.tab T = some te := by exact rfl) (ha : te.k.isAgg = true := by exact rfl) (hx : ev tm x = some (.lo k τ s i p) := by exact rfl) (hs : σ k = some (τ, ⟨s, rows⟩) := by exact rfl) (hr : rows[i]? = some row := by (first | exact rfl | exact uW (by omega) default | exact wK (by omega) (by omega) (0 : Int) | assumption)) (hl : p + te.size ≤ row.length := by exact Nat.le_of_ble_eq_true rfl) : AO E.P v ops K j (⟨dst, .load T x, ty, pos, af, none⟩ :: rest) tm σ := S_load_loA hT ha hx hs hr hl hcont
theorem q15 {d : Option Nat} {T : TypeId} {z : Operand} {k : Nat} {i : Nat} {rows : List (List OV)} {row : List OV} (hcont : AO E.P v ops K (j + 1) rest (tm.putO d .un) (σ.apply [(k, some (τ, ⟨s, rows.set i (setAt row p y.cells)⟩))])) (hT : E.tab T = some te := by exact rfl) (hx : ev tm x = some (.lo k τ s i p) := by exact rfl) (hz : ev tm z = some y := by exact rfl) (hw' : y.wide = true := by exact rfl) (hn : y.cells.length = te.size := by exact rfl) (hs : σ k = some (τ, ⟨s, rows⟩) := by exact rfl) (hr : rows[i]? = some row := by (first | exact rfl | exact uW (by omega) (0 : Int) | exact uW (by omega) default | exact wK (by omega) (by omega) (0 : Int) | assumption)) (hp : p + te.size ≤ row.length := by exact Nat.le_of_ble_eq_true rfl) : AO E.P v ops K j (⟨d, .store T x z, ty, pos, af, none⟩ :: rest) tm σ := dQ hT hx hz hw' hn hs hr hp hcont
theorem q23 {dst : Option Tmp} {T : TypeId} (hcont : AO E.P v ops K (j + 1) rest (tm.putO dst (.d t)) (σ.apply [])) (hT : E.tab T = some te := by exact rfl) (ha : te.k.isAgg = false := by exact rfl) (hx : ev tm x = some (.d (.pt row p)) := by exact rfl) (ht : row[p]? = some t := by exact rfl) : AO E.P v ops K j (⟨dst, .load T x, ty, pos, af, none⟩ :: rest) tm σ := S_load_pt hT ha hx ht hcont
theorem q26 {dst : Option Tmp} {gd : Option (Nat × Bool)} {T T' : TypeId} {y : Operand} {k : IntKind} {a b : Int} (hx : EvM tm x (.int k a) := by exact evm) (hy : EvM tm y (.int k b) := by exact evm) : YL E.P v j ⟨dst, .binOp .neq T x y T', ty, pos, af, gd⟩ tm σ [] (.bool (!decide (a = b))) [] := uBJ hx hy
theorem q28 {dst : Option Tmp} {T : TypeId} {f : Nat} {o : Nat} {k : Nat} {i : Nat} (hcont : AO E.P v ops K (j + 1) rest (tm.putO dst (.lo k τ s i (p + o))) (σ.apply [])) (hT : E.tab T = some te := by exact rfl) (hk : te.k = .st fs := by exact rfl) (hf : fs[f]? = some (o, ft) := by exact rfl) (hF : E.tab ft = some fe := by exact rfl) (hz : fe.size ≠ 0 := by decide) (hx : ev tm x = some (.lo k τ s i p) := by exact rfl) : AO E.P v ops K j (⟨dst, .fieldAddr T x f, ty, pos, af, none⟩ :: rest) tm σ := S_fieldAddr_lo hT hk hf hF hz hx hcont
theorem q32 {dst : Option Tmp} {T : TypeId} {f : Nat} {o : Nat} (hcont : AO E.P v ops K (j + 1) rest (tm.putO dst (.d (.pt row (p + o)))) (σ.apply [])) (hT : E.tab T = some te := by exact rfl) (hk : te.k = .st fs := by exact rfl) (hf : fs[f]? = some (o, ft) := by exact rfl) (hF : E.tab ft = some fe := by exact rfl) (hz : fe.size ≠ 0 := by decide) (hx : ev tm x = some (.d (.pt row p)) := by exact rfl) : AO E.P v ops K j (⟨dst, .fieldAddr T x f, ty, pos, af, none⟩ :: rest) tm σ := S_fieldAddr_pt hT hk hf hF hz hx hcont
theorem q33 {dst : Option Tmp} {T : TypeId} (hcont : AO E.P v ops K (j + 1) rest (tm.putO dst (.ag (((row.drop p).take te.size).map .d))) (σ.apply [])) (hT : E.tab T = some te := by exact rfl) (ha : te.k.isAgg = true := by exact rfl) (hx : ev tm x = some (.d (.pt row p)) := by exact rfl) (hl : p + te.size ≤ row.length := by exact Nat.le_of_ble_eq_true rfl) : AO E.P v ops K j (⟨dst, .load T x, ty, pos, af, none⟩ :: rest) tm σ := S_load_ptA hT ha hx hl hcont
theorem q36 {dst : Option Tmp} {T T' : TypeId} {y : Operand} {a b : Int} (hcont : AO E.P v ops K (j + 1) rest (tm.putO dst (.int .i64 (a + b))) (σ.apply [])) (hx : ev tm x = some (.int .i64 a) := by exact rfl) (hy : ev tm y = some (.int .i64 b) := by exact rfl) (h : -9223372036854775808 ≤ a + b ∧ a + b ≤ 9223372036854775807 := by omega) : AO E.P v ops K j (⟨dst, .binOp .add T x y T', ty, pos, af, none⟩ :: rest) tm σ := S_add64 hx hy h hcont
theorem q37 {dst : Option Tmp} {T T' : TypeId} {y : Operand} {k : IntKind} {a b : Int} (hcont : AO E.P v ops K (j + 1) rest (tm.putO dst (.bool (decide (a < b)))) (σ.apply [])) (hx : ev tm x = some (.int k a) := by exact rfl) (hy : ev tm y = some (.int k b) := by exact rfl) : AO E.P v ops K j (⟨dst, .binOp .lss T x y T', ty, pos, af, none⟩ :: rest) tm σ := S_lss hx hy hcont
theorem q46 {dst : Option Tmp} {T T' : TypeId} {y : Operand} {k : IntKind} {a b : Int} (hcont : AO E.P v ops K (j + 1) rest (tm.putO dst (.bool (decide (a = b)))) (σ.apply [])) (hx : ev tm x = some (.int k a) := by exact rfl) (hy : ev tm y = some (.int k b) := by exact rfl) : AO E.P v ops K j (⟨dst, .binOp .eql T x y T', ty, pos, af, none⟩ :: rest) tm σ := S_eql hx hy hcont
theorem q50 {dst : Option Tmp} {T : TypeId} (hcont : DO E.P v ops KD (j + 1) rest (tm.putO dst (.d t)) (σ.apply []) (Foot.mk [] (wkeys []) :: acc)) (hT : E.tab T = some te := by exact rfl) (ha : te.k.isAgg = false := by exact rfl) (hx : ev tm x = some (.d (.pt row p)) := by exact rfl) (ht : row[p]? = some t := by exact rfl) : DO E.P v ops KD j (⟨dst, .load T x, ty, pos, af, none⟩ :: rest) tm σ acc := D_load_pt hT ha hx ht hcont
theorem q51 {d : Nat} {ee : TE} (hcont : AO E.P v ops K (j + 1) rest (tm.putO (some d) (.os d (v, j) s 0)) (σ.apply [(d, some ((v, j), ⟨s, []⟩))])) (hT : E.tab ty = some te := by exact rfl) (hk : te.k = .slice e := by exact rfl) (hE : E.tab e = some ee := by exact rfl) (hs : ee.size = s := by exact rfl) : AO E.P v ops K j (⟨some d, .assign (.const (.slice none 0 0)), ty, pos, af, none⟩ :: rest) tm σ := S_nilA hT hk hE hs hcont
theorem q52 {dst : Option Tmp} {T : TypeId} {f : Nat} {o : Nat} (hcont : DO E.P v ops KD (j + 1) rest (tm.putO dst (.d (.pt row (p + o)))) (σ.apply []) (Foot.mk [] (wkeys []) :: acc)) (hT : E.tab T = some te := by exact rfl) (hk : te.k = .st fs := by exact rfl) (hf : fs[f]? = some (o, ft) := by exact rfl) (hF : E.tab ft = some fe := by exact rfl) (hz : fe.size ≠ 0 := by decide) (hx : ev tm x = some (.d (.pt row p)) := by exact rfl) : DO E.P v ops KD j (⟨dst, .fieldAddr T x f, ty, pos, af, none⟩ :: rest) tm σ acc := D_fieldAddr_pt hT hk hf hF hz hx hcont
theorem q54 {d : Option Nat} {T : TypeId} {parts : List (Nat × Operand)} (hcont : AO E.P v ops K (j + 1) rest (tm.putO d (.ag cs)) (σ.apply [])) (hT : E.tab T = some te := by exact rfl) (hk : te.k = .st fs := by exact rfl) (hfs : (fs.all fun f => (E.tab f.2).isSome) = true := by exact rfl) (hp : evParts tm parts = some ys := by exact rfl) (hc : fillO (fun i => (fs[i]?).map fun f : Nat × TypeId => (f.1, sizeT E f.2)) (consts te.zero) ys = some cs := by exact rfl) : AO E.P v ops K j (⟨d, .build T parts.toArray, ty, pos, af, none⟩ :: rest) tm σ := S_build hT hk hfs hp hc hcont
theorem q56 {dst : Option Tmp} {T : TypeId} {f : Nat} {o : Nat} {k : Nat} {i : Nat} (hcont : DO E.P v ops KD (j + 1) rest (tm.putO dst (.lo k τ s i (p + o))) (σ.apply []) (Foot.mk [] (wkeys []) :: acc)) (hT : E.tab T = some te := by exact rfl) (hk : te.k = .st fs := by exact rfl) (hf : fs[f]? = some (o, ft) := by exact rfl) (hF : E.tab ft = some fe := by exact rfl) (hz : fe.size ≠ 0 := by decide) (hx : ev tm x = some (.lo k τ s i p) := by exact rfl) : DO E.P v ops KD j (⟨dst, .fieldAddr T x f, ty, pos, af, none⟩ :: rest) tm σ acc := D_fieldAddr_lo hT hk hf hF hz hx hcont
end
section
variable {P : Program} {v j : Nat} {ops : Array Oper} {K : Tm → Store → Prop} {KD : List Foot → Tm → Store → Prop} {acc : List Foot} {rest : List Oper} {tm : Tm} {σ : Store} {dst : Option Tmp} {ty : TypeId} {pos : String} {af : Array Edge} {gd : Option (Nat × Bool)} {c p q : Operand} {b x z : Bool}
theorem q0  (hk : AO P v ops K (j + 1) rest (tm.putO dst (.bool (b || z))) (σ.apply [])) (hc : EvM tm c (.bool b) := by exact evm) (hp : ev tm p = some (.bool true) := by exact rfl) (hq : EvB tm q z (b = false) := by (first | (refine EvB.mb _ rfl ?_; first | exact fun h => h | exact fun h => wB h | exact fun h => wC (by assumption) h | exact fun h => wC (by assumption) (wB h) | (intro h; simp_all)) | exact EvB.plain rfl)) : AO P v ops K j (⟨dst, .pick c p q, ty, pos, af, none⟩ :: rest) tm σ := S_pick_or hc hp hq hk
theorem q4  (hk : AO P v ops K (j + 1) rest (tm.putO dst (.bool (b && x))) (σ.apply [])) (hc : EvM tm c (.bool b) := by exact evm) (hp : EvB tm p x (b = true) := by (first | (refine EvB.mb _ rfl ?_; first | exact fun h => h | exact fun h => wB h | exact fun h => wC (by assumption) h | exact fun h => wC (by assumption) (wB h) | (intro h; simp_all)) | exact EvB.plain rfl)) (hq : ev tm q = some (.bool false) := by exact rfl) : AO P v ops K j (⟨dst, .pick c p q, ty, pos, af, none⟩ :: rest) tm σ := S_pick_and hc hp hq hk
end
section
attribute [local semireducible] NextOk
section
variable {P : Program} {n : Nat} {Q Qx : Exit → Tm → Store → Prop} {tm : Tm} {σ : Store}
inductive Froz (k : Nat) (τ : Stamp) (s : Nat) (rows : List (List TV)) : OV → OV → Prop where
 | same (y : OV) : Froz k τ s rows y y
 | os : Froz k τ s rows (.os k τ s rows.length) (.d (.sl s rows))
 | vw (l m : Nat) (h : l + m ≤ rows.length) : Froz k τ s rows (.vw k τ s l m) (.d (.sl s ((rows.drop l).take m)))
 | lo (i o : Nat) (row : List TV) (h : rows[i]? = some row) : Froz k τ s rows (.lo k τ s i o) (.d (.pt row o))
 | nil (q : Nat) : Froz k τ s rows (.d (.c (.slice none 0 0))) (.d (.sl q []))
theorem Froz.rep {G' : Gh} {k : Nat} {rows : List (List TV)} (hle : G.le G') (hk : (G.μ k τ = some none ∧ rows = []) ∨ ∃ β, G.μ k τ = some (some β) ∧ ∀ i row, rows[i]? = some row → row.length = s ∧ RepC G'.M row β.b (i * s)) {y' : OV} (h : Froz k τ s rows y y') {x : Value} (hr : RepO G y x) : RepO G' y' x := by
 cases h with
 | same => exact hr.mono hle
 | nil q =>
  have e := vA hr
  subst e
  rw [RepO, Rep]
  exact ⟨none, 0, rfl, Nat.le_refl _, Or.inl rfl⟩
 | os =>
  simp only [RepO] at hr ⊢
  rw [Rep]
  rcases hr with ⟨β, c, g1, g2, g3, _, _⟩ | ⟨g1, g2, g3⟩
  ·refine ⟨_, c, g2, g3, ?_⟩
   rcases hk with ⟨k1, _⟩ | ⟨β', k1, k2⟩
   ·rw [k1] at g1; cases g1
   ·rw [k1] at g1; cases g1
    exact Or.inr ⟨_, 0, rfl, RepR.of_get fun i r hi => by rw [Nat.zero_add]; exact k2 i r hi⟩
  ·have : rows = [] := List.eq_nil_of_length_eq_zero g3
   subst this
   exact ⟨none, 0, g2, Nat.le_refl _, Or.inl rfl⟩
 | vw l m hlm =>
  simp only [RepO] at hr ⊢
  rw [Rep]
  obtain ⟨a, c, g1, g2, g3⟩ := hr
  have hl : ((rows.drop l).take m).length = m := by simp; omega
  refine ⟨a, c, by rw [hl]; exact g1, by rw [hl]; exact g2, ?_⟩
  rcases g3 with g3 | ⟨β, g3, g4⟩
  ·subst g3; exact Or.inl (by simp)
  ·rcases hk with ⟨k1, k2⟩ | ⟨β', k1, k2⟩
   ·subst k2; exact Or.inl (by simp)
   ·rw [k1] at g3; cases g3
    refine Or.inr ⟨_, l * s, g4, RepR.of_get fun i r hi => ?_⟩
    rw [List.getElem?_take] at hi
    split at hi
    ·rw [List.getElem?_drop] at hi
     have := k2 _ _ hi
     rw [Nat.add_mul] at this
     exact this
    ·cases hi
 | lo i o row hrow =>
  simp only [RepO] at hr ⊢
  rw [Rep]
  obtain ⟨β, g1, g2⟩ := hr
  rcases hk with ⟨k1, k2⟩ | ⟨β', k1, k2⟩
  ·rw [k1] at g1; cases g1
  ·rw [k1] at g1; cases g1
   exact ⟨_, _, g2, (k2 i row hrow).2⟩
def FrozT (k : Nat) (τ : Stamp) (s : Nat) (rows : List (List TV)) (tm tm' : Tm) : Prop := ∀ t y', tm' t = some y' → ∃ y, tm t = some y ∧ Froz k τ s rows y y'
def FrozR (k : Nat) (τ : Stamp) (s : Nat) (rows : List (List TV)) (r r' : Row) : Prop := r'.s = r.s ∧ r'.rows.length = r.rows.length ∧ ∀ (i : Nat) (row' : List OV), r'.rows[i]? = some row' → ∃ row : List OV, r.rows[i]? = some row ∧ row.length = row'.length ∧ ∀ (o : Nat) (y' : OV), row'[o]? = some y' → ∃ y : OV, row[o]? = some y ∧ Froz k τ s rows y y'
def FrozS (k : Nat) (τ : Stamp) (s : Nat) (rows : List (List TV)) (σ σ' : Store) : Prop := ∀ j τ' r', σ' j = some (τ', r') → j ≠ k ∧ ∃ r, σ j = some (τ', r) ∧ FrozR k τ s rows r r'
theorem WRel.froz {σ : Store} {k : Nat} {rows : List (List TV)} (hw : WRel Γ G (σ.del k) w) (hσ : FrozS k τ s rows σ σ') (hr : ∀ y y' x, Froz k τ s rows y y' → RepO G y x → RepO G y' x) : WRel Γ G σ' w where
 mem := hw.mem
 own j τ' r' hj := by
  obtain ⟨hne, r, h1, h2, h3, h4⟩ := hσ j τ' r' hj
  have h1' : σ.del k j = some (τ', r) := by rw [Store.del_ne _ hne]; exact h1
  rcases hw.own j τ' r h1' with ⟨g1, g2⟩ | ⟨β, g1, ⟨cs, c1, c2, c3, c4⟩, g3, g4⟩
  ·exact Or.inl ⟨g1, List.eq_nil_of_length_eq_zero (by rw [h3, g2]; rfl)⟩
  ·refine Or.inr ⟨β, g1, ⟨cs, c1, c2, by rw [h2, h3]; exact c3, fun i row' hi => ?_⟩, g3, g4⟩
   obtain ⟨row, e1, e2, e3⟩ := h4 i row' hi
   obtain ⟨d1, d2⟩ := c4 i row e1
   refine ⟨by rw [h2, ← d1, e2], fun o y' ho => ?_⟩
   obtain ⟨y, e4, e5⟩ := e3 o y' ho
   obtain ⟨v, e6, e7⟩ := d2 o y e4
   exact ⟨v, by rw [h2]; exact e6, hr _ _ _ e5 e7⟩
 inj j j' τ1 τ2 β β' r r' hj hj' hμ hμ' e := by
  obtain ⟨n1, r1, h1, _⟩ := hσ j τ1 r hj
  obtain ⟨n2, r2, h2, _⟩ := hσ j' τ2 r' hj'
  exact hw.inj j j' τ1 τ2 β β' r1 r2 (by rw [Store.del_ne _ n1]; exact h1) (by rw [Store.del_ne _ n2]; exact h2) hμ hμ' e
 keep := hw.keep
 size := hw.size
 tape := hw.tape
 os := hw.os
 output := hw.output
 g0 := hw.g0
 new := hw.new
 bound := hw.bound
 low := hw.low
theorem SRel.freeze {a : Act} {k : Nat} {rows : List (List TV)} (hs : SRel n C G tm σ a w) (hk : σ k = some (τ, ⟨s, rows.map fun r => r.map .d⟩)) (ht : FrozT k τ s rows tm tm') (hσ : FrozS k τ s rows σ σ') :
  ∃ G', G.le G' ∧ G'.μ = G.μ ∧ SRel n C G' tm' σ' a w := by
 have fin : ∀ G', G.le G' → WRel C.Γ G' (σ.del k) w → ((G'.μ k τ = some none ∧ rows = []) ∨ ∃ β, G'.μ k τ = some (some β) ∧ ∀ i row, rows[i]? = some row → row.length = s ∧ RepC G'.M row β.b (i * s)) → SRel n C G' tm' σ' a w := fun G' hle hw hc => by
  have hr : ∀ y y' x, Froz k τ s rows y y' → RepO G' y x → RepO G' y' x := fun y y' x hf hx => hf.rep (Gh.le.refl G') hc hx
  refine ⟨hs.size, hs.defers, fun t y' hy => ?_, hw.froz hσ hr, hs.fix, hs.marks, fun i Y hi => ?_⟩
  ·obtain ⟨y, h1, h2⟩ := ht t y' hy
   rcases hs.tm t y h1 with ⟨i, Y, rfl⟩ | ⟨x, h3, h4⟩
   ·cases h2; exact Or.inl ⟨i, Y, rfl⟩
   ·exact Or.inr ⟨x, h3, hr _ _ _ h2 (h4.mono hle)⟩
  ·obtain ⟨y, h1, h2⟩ := ht GS _ hi
   cases h2
   exact ⟨(hs.gh i Y h1).1, (hs.gh i Y h1).2.1.trans hle, (hs.gh i Y h1).2.2⟩
 rcases hs.w.own k τ _ hk with ⟨h1, h2⟩ | ⟨β, h1, h2, h3, h4⟩
 ·exact ⟨G, Gh.le.refl G, rfl, fin G (Gh.le.refl G) (hs.w.del k) (Or.inl ⟨h1, List.map_eq_nil_iff.1 h2⟩)⟩
 ·obtain ⟨M', g1, g2, g3⟩ := hs.w.freeze hk h1
  refine ⟨⟨M', G.μ, G.kn.mono g1⟩, ⟨g1, fun _ _ _ e => e⟩, rfl, fin _ ⟨g1, fun _ _ _ e => e⟩ g2 (Or.inr ⟨β, h1, fun i row hi => ?_⟩)⟩
  obtain ⟨e1, e2⟩ := g3 i (row.map .d) (by simp [hi])
  refine ⟨by simpa using e1, RepC.of_get fun o t ho => ?_⟩
  obtain ⟨v, e3, e4⟩ := e2 o (.d t) (by simp [ho])
  rw [RepO] at e4
  exact ⟨v, e3, e4⟩
theorem wM (k : Nat) (τ : Stamp) (s : Nat) (rows : List (List TV)) (tm' : Tm) (σ' : Store) (hk : σ k = some (τ, ⟨s, rows.map fun r => r.map .d⟩)) (ht : FrozT k τ s rows tm tm') (hσ : FrozS k τ s rows σ σ') (h : awp P n c Q tm' σ') : awp P n c Q tm σ := fun C ro G a w hro hs => by
 obtain ⟨G', _, _, hs'⟩ := hs.freeze hk ht hσ
 exact h C ro G' a w hro hs'
theorem xV {k : Nat} {rows : List (List TV)} : FrozT k τ s rows tm (tmL []) := fun t y h => by cases h
theorem vK {k d : Nat} {rows : List (List TV)} {y' : OV} {l : List (Nat × OV)} (h : tm d = some y) (hf : Froz k τ s rows y y') (hl : FrozT k τ s rows tm (tmL l)) : FrozT k τ s rows tm (tmL ((d, y') :: l)) := fun t z hz => by
 unfold tmL at hz
 cases hb : Nat.beq t d with
 | true => rw [hb] at hz; cases hz; rw [Nat.eq_of_beq_eq_true hb]; exact ⟨y, h, hf⟩
 | false => rw [hb] at hz; exact hl t z hz
theorem FrozR.same {k : Nat} {rows : List (List TV)} (r : Row) : FrozR k τ s rows r r := ⟨rfl, rfl, fun i row h => ⟨row, h, rfl, fun o y ho => ⟨y, ho, .same y⟩⟩⟩
theorem xB {k : Nat} {rows : List (List TV)} : FrozS k τ s rows σ (stL []) := fun j τ' r h => by cases h
theorem uX {k d : Nat} {τ' : Stamp} {rows : List (List TV)} {r r' : Row} {l : List (Nat × (Stamp × Row))} (hne : d ≠ k) (h : σ d = some (τ', r)) (hf : FrozR k τ s rows r r') (hl : FrozS k τ s rows σ (stL l)) : FrozS k τ s rows σ (stL ((d, (τ', r')) :: l)) := fun j τ2 r2 hz => by
 unfold stL at hz
 cases hb : Nat.beq j d with
 | true => rw [hb] at hz; cases hz; rw [Nat.eq_of_beq_eq_true hb]; exact ⟨hne, r, h, hf⟩
 | false => rw [hb] at hz; exact hl j τ2 r2 hz
theorem vL {k m : Nat} {rows : List (List TV)} (h : m = rows.length) : Froz k τ s rows (.os k τ s m) (.d (.sl s rows)) := by subst h; exact .os
end
section
variable {E : Env} {v j : Nat} {ops : Array Oper} {K : Tm → Store → Prop} {KD : List Foot → Tm → Store → Prop} {acc : List Foot} {rest : List Oper} {tm : Tm} {σ : Store} {ty : TypeId} {pos : String} {af : Array Edge} {gd : Option (Nat × Bool)} {dst : Option Tmp}
theorem ao_cons_app {l1 l2 : List Oper} (h : AO E.P v ops K j (o :: List.append l1 l2) tm σ) : AO E.P v ops K j (List.append (o :: l1) l2) tm σ := h
theorem ao_nil_app {l2 : List Oper} (h : AO E.P v ops K j l2 tm σ) : AO E.P v ops K j (List.append [] l2) tm σ := h
theorem ao_app_app {l1 l2 l3 : List Oper} (h : AO E.P v ops K j (List.append l1 (List.append l2 l3)) tm σ) : AO E.P v ops K j (List.append (List.append l1 l2) l3) tm σ := by
 have e : List.append (List.append l1 l2) l3 = List.append l1 (List.append l2 l3) := List.append_assoc l1 l2 l3
 rw [e]; exact h
theorem do_cons_app {l1 l2 : List Oper} (h : DO E.P v ops KD j (o :: List.append l1 l2) tm σ acc) : DO E.P v ops KD j (List.append (o :: l1) l2) tm σ acc := h
theorem do_nil_app {l2 : List Oper} (h : DO E.P v ops KD j l2 tm σ acc) : DO E.P v ops KD j (List.append [] l2) tm σ acc := h
theorem do_app_app {l1 l2 l3 : List Oper} (h : DO E.P v ops KD j (List.append l1 (List.append l2 l3)) tm σ acc) : DO E.P v ops KD j (List.append (List.append l1 l2) l3) tm σ acc := by
 have e : List.append (List.append l1 l2) l3 = List.append l1 (List.append l2 l3) := List.append_assoc l1 l2 l3
 rw [e]; exact h
structure Frozen (t : Nat) : Prop where
 ok : True
structure FzR (a : List (List OV)) (b : List (List TV)) : Prop where
 eq : a = b.map fun r => r.map .d
structure FzC (a : List OV) (b : List TV) : Prop where
 eq : a = b.map .d
theorem FzC.nil : FzC [] [] := ⟨rfl⟩
theorem FzC.cons {t : TV} {a : List OV} {b : List TV} (h : FzC a b) : FzC (.d t :: a) (t :: b) := ⟨by rw [h.eq]; rfl⟩
theorem FzC.map (b : List TV) : FzC (b.map .d) b := ⟨rfl⟩
theorem FzR.nil : FzR [] [] := ⟨rfl⟩
theorem FzR.cons {r : List OV} {t : List TV} {a : List (List OV)} {b : List (List TV)} (h1 : FzC r t) (h : FzR a b) : FzR (r :: a) (t :: b) := ⟨by rw [h1.eq, h.eq]; rfl⟩
theorem FzR.app {a' : List (List OV)} {b' : List (List TV)} (h : FzR a b) (h' : FzR a' b') : FzR (a ++ a') (b ++ b') := ⟨by rw [h.eq, h'.eq, List.map_append]⟩
theorem FzR.d (b : List (List TV)) : FzR (b.map fun r => r.map .d) b := ⟨rfl⟩
theorem FzR.take (n : Nat) (h : FzR a b) : FzR (a.take n) (b.take n) := ⟨by rw [h.eq, List.map_take]⟩
theorem FzR.drop (n : Nat) (h : FzR a b) : FzR (a.drop n) (b.drop n) := ⟨by rw [h.eq, List.map_drop]⟩
theorem FzR.of {α : Type} {f : α → List OV} {g : α → List TV} (h : ∀ a, f a = (g a).map .d) (l : List α) : FzR (l.map f) (l.map g) := ⟨by rw [List.map_map]; exact List.map_congr_left fun a _ => h a⟩
theorem FzR.ints (l : List Int) : FzR (l.map (cellO .i64)) (l.map cell) := FzR.of (f := cellO .i64) (g := cell) (fun _ => rfl) l
end
end
section
attribute [local semireducible] NextOk
def FnW (P : Program) (f : FuncId) (args : List OV) (σ0 : Store) (R : OV → Store → Prop) : Prop :=
 Enters P f ∧ ∀ (G : Gh) (w : World) (vs : List Value) (N : Nat), RepOL G args vs → WRel ⟨w, Blks G σ0, G, N⟩ G σ0 w →
  Calls P f vs.toArray w (fun e w' => ∃ x G' r σ', e = .returned x ∧ R r σ' ∧ G.le G' ∧ RepO G' r x ∧ WRel ⟨w, Blks G σ0, G, N⟩ G' σ' w')
theorem FnW.toR (h : FnW P f args Store.nil R) : FnR P f args R :=
 ⟨h.1, fun G w vs N h1 h2 => by
  have := h.2 G w vs N h1
  rw [blks_nil] at this
  exact this h2⟩
def Behind (σ σ0 σ1 σ' : Store) : Prop := ∀ k τ r, σ' k = some (τ, r) → (σ0 k = none ∧ σ k = some (τ, r)) ∨ (σ1 k = some (τ, r) ∧ ∃ r0, σ0 k = some (τ, r0))
theorem WRel.backW {G' : Gh} {σ1 : Store} {w' : World} {N : Nat} (h : WRel Γ G σ w) (hle : σ0.le σ) (h' : WRel ⟨w, Blks G σ0, G, N⟩ G' σ1 w') (hN : Γ.N ≤ N) (hb : Behind σ σ0 σ1 σ') : WRel Γ G' σ' w' := by
 have own' : ∀ k τ r β, σ k = some (τ, r) → G'.μ k τ = some (some β) → G.μ k τ = some (some β) := fun k τ r β hk hμ => by
  rcases h.own k τ r hk with ⟨h1, h2⟩ | ⟨β0, h1, h2⟩
  ·have := h'.g0.2 _ _ _ h1; rw [hμ] at this; cases this
  ·have := h'.g0.2 _ _ _ h1; rw [hμ] at this; cases this; exact h1
 have old : ∀ k τ r, σ' k = some (τ, r) → ∃ r0, σ k = some (τ, r0) := fun k τ r hk => by
  rcases hb k τ r hk with ⟨_, h1⟩ | ⟨_, r0, h1⟩
  ·exact ⟨r, h1⟩
  ·exact ⟨r0, hle _ _ h1⟩
 have blk : ∀ b, Blks G σ0 b → Γ.w0.heap.size ≤ b ∨ Γ.S b := fun b ⟨k, τ, r, β, h1, h2, h3⟩ => by
  rcases h.own k τ r (hle _ _ h1) with ⟨g1, _⟩ | ⟨β0, g1, _, _, g2⟩
  ·rw [h2] at g1; cases g1
  ·rw [h2] at g1; cases g1; rw [← h3]; exact g2
 refine ⟨h'.mem, ?_, ?_, ?_, Nat.le_trans h.size h'.size, h'.tape.trans h.tape, h'.os.trans h.os, h'.output.trans h.output, h.g0.trans h'.g0, ?_, h'.bound, fun k v i hv => (h'.low k v i (Nat.lt_of_lt_of_le hv hN)).trans (h.low k v i hv)⟩
 ·intro k τ r hk
  rcases hb k τ r hk with ⟨h0, h1⟩ | ⟨h1, r0, h0⟩
  ·rcases h.own k τ r h1 with ⟨g1, g2⟩ | ⟨β, g1, g2, g3, g4⟩
   ·exact Or.inl ⟨h'.g0.2 _ _ _ g1, g2⟩
   ·have hn : ¬ Blks G σ0 β.b := fun ⟨k', τ', r', β', e1, e2, e3⟩ => by
     have := h.inj k' k τ' τ β' β r' r (hle _ _ e1) h1 e2 g1 e3
     subst this
     rw [h0] at e1; cases e1
    refine Or.inr ⟨β, h'.g0.2 _ _ _ g1, (g2.of_heap (h'.keep β.b g2.lt hn)).mono h'.g0, fun o => ?_, g4⟩
    cases hm : G'.M β.b o with
    | none => rfl
    | some x =>
     rcases h'.new _ _ _ hm with e | e | e
     ·have := g3 o; rw [show G.M β.b o = some x from e] at this; cases this
     ·have := g2.lt; exact (Nat.not_lt.2 e this).elim
     ·exact (hn e).elim
  ·rcases h'.own k τ r h1 with g | ⟨β, g1, g2, g3, _⟩
   ·exact Or.inl g
   ·have e1 := own' k τ r0 β (hle _ _ h0) g1
    exact Or.inr ⟨β, g1, g2, g3, blk _ ⟨k, τ, r0, β, h0, e1, rfl⟩⟩
 ·intro k k' τ τ' β β' r r' hk hk' hμ hμ' e
  obtain ⟨r0, h1⟩ := old k τ r hk
  obtain ⟨r0', h1'⟩ := old k' τ' r' hk'
  exact h.inj k k' τ τ' β β' r0 r0' h1 h1' (own' _ _ _ _ h1 hμ) (own' _ _ _ _ h1' hμ') e
 ·intro b hb' hS
  refine (h'.keep b (Nat.lt_of_lt_of_le hb' h.size) fun hB => ?_).trans (h.keep b hb' hS)
  rcases blk b hB with e | e
  ·exact Nat.not_lt.2 e hb'
  ·exact hS e
 ·intro b o x hm
  rcases h'.new b o x hm with e | e | e
  ·exact h.new b o x e
  ·exact Or.inr (Or.inl (Nat.le_trans h.size e))
  ·exact Or.inr (blk b e)
section
variable {P : Program} {v j : Nat} {tm : Tm} {σ : Store} {dst : Option Tmp} {ty : TypeId} {pos : String} {af : Array Edge} {gd : Option (Nat × Bool)} {K : OV → Store → Prop}
theorem kN {ys : List OV} (hx : ev tm x = some y) (hf : IsFn y f fi ca) (ha : evs tm xs = some ys) (hc : FnW P f (fi ++ ys ++ ca) σ0 R) (hρ : ∀ z ∈ (Op.call { callee := .value x, args := xs.toArray, argTypes := tys }).operands, ∀ y, ev tm z = some y → RepO G y (ρ z)) (hw : WRel Γ G σ w) (hle : σ0.le σ) :
  ∃ f' args, (execOp ρ ⟨dst, .call { callee := .value x, args := xs.toArray, argTypes := tys }, ty, pos, af, gd⟩).run P w = .ok (.enter f' args) w ∧
   Calls P f' args w (fun e w' => ∃ x G' r σ', e = .returned x ∧ R r σ' ∧ G.le G' ∧ RepO G' r x ∧ WRel ⟨w, Blks G σ0, G, v + 1⟩ G' σ' w') := by
 obtain ⟨vs, us, h1, h2, h3⟩ := hf.rep (hρ x (by simp [Op.operands, Call.operands]) y hx)
 have h4 := bW ha fun z hz => hρ z (by simp [Op.operands, Call.operands, hz])
 refine ⟨f, _, fC h1 hc.1, ?_⟩
 have h5 := hc.2 G w (vs.toList ++ xs.map ρ ++ us.toList) (v + 1) ((h2.append h4).append h3) (hw.startW hle (v + 1))
 have e : (vs.toList ++ xs.map ρ ++ us.toList).toArray = vs ++ (xs.map ρ).toArray ++ us := by simp
 rw [e] at h5
 exact h5
def outD (l1 : List (Nat × (Stamp × Row))) : Diff := l1.map fun e => (e.1, some e.2)
def keysOf (l : List (Nat × (Stamp × Row))) : List (Nat × Stamp) := l.map fun e => (e.1, e.2.1)
theorem rG : ∀ {l : List (Nat × (Stamp × Row))} {k : Nat} {x : Stamp × Row}, stL l k = some x → k ∈ l.map (·.1)
 | [], k, x, h => by cases h
 | (d, y) :: l, k, x, h => by
  unfold stL at h
  cases hb : Nat.beq k d with
  | true => rw [Nat.eq_of_beq_eq_true hb]; simp
  | false => rw [hb] at h; simp [rG (show stL l k = some x from h)]
theorem oF : ∀ {l : List (Nat × (Stamp × Row))} {k : Nat}, k ∉ l.map (·.1) → stL l k = none
 | [], k, h => rfl
 | (d, y) :: l, k, h => by
  unfold stL
  simp only [List.map_cons, List.mem_cons, not_or] at h
  rw [cH h.1]
  exact oF h.2
theorem oG (d : Nat) (y : Stamp × Row) (l : List (Nat × (Stamp × Row))) (k : Nat) : stL ((d, y) :: l) k = bif Nat.beq k d then some y else stL l k := rfl
theorem bY : ∀ (l : List (Nat × (Stamp × Row))) (σ : Store) (k : Nat), (l.map (·.1)).Nodup → (σ.apply (outD l)) k = match stL l k with | some x => some x | none => σ k
 | [], σ, k, _ => rfl
 | (d, y) :: l, σ, k, hn => by
  simp only [List.map_cons, List.nodup_cons] at hn
  have ih := bY l (σ.put d y) k hn.2
  show (Store.apply (σ.put d y) (outD l)) k = _
  rw [ih, oG]
  cases hb : Nat.beq k d with
  | true =>
   have e := Nat.eq_of_beq_eq_true hb
   subst e
   rw [oF hn.1]
   exact Store.put_self σ k y
  | false =>
   have h1 : σ.put d y k = σ k := by simp [Store.put, hb]
   rw [h1]; rfl
theorem eF : ∀ {l0 l1 : List (Nat × (Stamp × Row))}, keysOf l0 = keysOf l1 → ∀ {k : Nat} {x : Stamp × Row}, stL l1 k = some x → ∃ r0, stL l0 k = some (x.1, r0)
 | [], [], _, k, x, h => by cases h
 | [], _ :: _, e, _, _, _ => by cases e
 | _ :: _, [], e, _, _, _ => by cases e
 | (d0, y0) :: l0, (d1, y1) :: l1, e, k, x, h => by
  simp only [keysOf, List.map_cons, List.cons.injEq, Prod.mk.injEq] at e
  obtain ⟨⟨rfl, e2⟩, e3⟩ := e
  unfold stL at h ⊢
  cases hb : Nat.beq k d0 with
  | true =>
   rw [hb] at h
   cases h
   exact ⟨y0.2, by rw [← e2]; rfl⟩
  | false =>
   rw [hb] at h
   exact eF e3 h
theorem keys_none {l0 l1 : List (Nat × (Stamp × Row))} (e : keysOf l0 = keysOf l1) {k : Nat} (h : stL l1 k = none) : stL l0 k = none := by
 cases hh : stL l0 k with
 | none => rfl
 | some x =>
  obtain ⟨r0, h1⟩ := eF e.symm hh
  rw [h] at h1; cases h1
def IsW (r : OV) (σ1 : Store) : OV → Store → Prop := fun r' σ' => r' = r ∧ σ1.le σ'
theorem Y_callw {ys : List OV} {l0 l1 : List (Nat × (Stamp × Row))} (hx : ev tm x = some y) (hf : IsFn y f fi ca) (ha : evs tm xs = some ys) (hc : FnW P f (fi ++ ys ++ ca) (stL l0) (IsW r (stL l1))) (hle : (stL l0).le σ) (hk : keysOf l0 = keysOf l1) (hn : (l1.map (·.1)).Nodup) :
  YL P v j ⟨dst, .call { callee := .value x, args := xs.toArray, argTypes := tys }, ty, pos, af, gd⟩ tm σ (l0.map (·.1)) r (outD l1) := fun σ' hσ Γ G ρ w hv _ hρ hw => by
 have hle' : (stL l0).le σ' := fun k x hx => by rw [hσ k (rG hx)]; exact hle k x hx
 obtain ⟨f', args, h1, h2⟩ := kN (v := v) hx hf ha hc hρ hw hle'
 rw [h1]
 refine h2.mono fun e w' ⟨x, G', r', σ2, h3, ⟨h4, h4'⟩, h5, h6, h7⟩ => ⟨x, h3, G', h5, fun k v' i hv' _ => h7.low k v' i (Nat.lt_succ_of_le hv'), by rw [← h4]; exact h6, hw.backW hle' h7 (Nat.le_succ_of_le hv) fun k τ r hkr => ?_⟩
 rw [bY l1 σ' k hn] at hkr
 cases h8 : stL l1 k with
 | some x =>
  rw [h8] at hkr
  cases hkr
  exact Or.inr ⟨h4' _ _ h8, eF hk h8⟩
 | none =>
  rw [h8] at hkr
  exact Or.inl ⟨keys_none hk h8, hkr⟩
end
theorem pI {fn : Func} {n : Nat} (hf : P.funcs[f]? = some fn) (hname : (fn.name == "runtime.NumGoroutine") = false) (hb : fn.body = some c) (hn : fn.ntmps = n) (hl : args.length ≤ n) (hq : ∀ e G tm σ C a w, SRel n C G tm σ a w → Q e tm σ → (e = .normal ∨ e = .ret) ∧ ∃ x r, (results fn a.tmps).run P w = .ok x w ∧ RepO G r x ∧ R r σ) (h : awp P n c Q (Tm.ini args) σ0) : FnW P f args σ0 R :=
 ⟨⟨fn, hf, hname, by rw [hb]; rfl⟩, fun G w vs N hv hw => kO hf hb hn hl h hv rfl hw rfl hq⟩
def Done0 (R : OV → Store → Prop) : Exit → Tm → Store → Prop
 | .normal, _, σ => R (.tu []) σ
 | .ret, _, σ => R (.tu []) σ
 | _, _, _ => False
theorem xD {fn : Func} {n : Nat} (hf : P.funcs[f]? = some fn) (hname : (fn.name == "runtime.NumGoroutine") = false) (hb : fn.body = some c) (hn : fn.ntmps = n) (hl : args.length ≤ n) (hr : fn.results = #[]) (h : awp P n c (Done0 R) (Tm.ini args) σ0) : FnW P f args σ0 R := by
 refine pI hf hname hb hn hl (fun e G tm σ Γ a w hs hd => ?_) h
 have key : R (.tu []) σ → ∃ x r, (results fn a.tmps).run P w = .ok x w ∧ RepO G r x ∧ R r σ := fun h1 => by
  refine ⟨.tuple #[], .tu [], ?_, ?_, h1⟩
  ·simp [results, hr]
  ·rw [RepO]; exact ⟨#[], rfl, by rw [RepOL]⟩
 cases e <;> first | exact hd.elim | exact ⟨by simp, key hd⟩
section
variable {E : Env} {v j : Nat} {ops : Array Oper} {K : Tm → Store → Prop} {KD : List Foot → Tm → Store → Prop} {acc : List Foot} {rest : List Oper} {tm : Tm} {σ : Store} {ty : TypeId} {pos : String} {af : Array Edge} {gd : Option (Nat × Bool)} {dst : Option Tmp}
theorem xT {ys : List OV} {l0 l1 : List (Nat × (Stamp × Row))} (hx : ev tm x = some y) (hf : IsFn y f fi ca) (ha : evs tm xs = some ys) (hc : FnW E.P f (fi ++ ys ++ ca) (stL l0) (IsW r (stL l1))) (hle : (stL l0).le σ) (hk : keysOf l0 = keysOf l1) (hn : (l1.map (·.1)).Nodup) (hcont : AO E.P v ops K (j + 1) rest (tm.putO dst r) (σ.apply (outD l1))) : AO E.P v ops K j (⟨dst, .call { callee := .value x, args := xs.toArray, argTypes := tys }, ty, pos, af, none⟩ :: rest) tm σ := uQ (Y_callw hx hf ha hc hle hk hn) hcont
end
def dels (l0 : List (Nat × (Stamp × Row))) : Diff := l0.map fun e => (e.1, none)
theorem eO : ∀ (l : List (Nat × (Stamp × Row))) (σ : Store) (k : Nat), (σ.apply (dels l)) k = match stL l k with | some _ => none | none => σ k
 | [], σ, k => rfl
 | (d, y) :: l, σ, k => by
  show (Store.apply (σ.del d) (dels l)) k = _
  rw [eO l (σ.del d) k, oG]
  cases hb : Nat.beq k d with
  | true =>
   have e := Nat.eq_of_beq_eq_true hb
   subst e
   rw [Store.del_self]
   cases stL l k <;> rfl
  | false =>
   have h1 : σ.del d k = σ k := by simp [Store.del, hb]
   rw [h1]; rfl
def IsX {X : Type} (I : X → Prop) (r0 : X → OV) (l1 : X → List (Nat × (Stamp × Row))) : OV → Store → Prop := fun r σ' => ∃ x, I x ∧ r = r0 x ∧ (stL (l1 x)).le σ'
section
variable {P : Program} {v j : Nat} {tm : Tm} {σ : Store} {dst : Option Tmp} {ty : TypeId} {pos : String} {af : Array Edge} {gd : Option (Nat × Bool)} {K : OV → Store → Prop}
theorem C_callX {I : X → Prop} {r0 : X → OV} {l1 : X → List (Nat × (Stamp × Row))} {ys : List OV} {l0 : List (Nat × (Stamp × Row))} (hx : ev tm x = some y) (hf : IsFn y f fi ca) (ha : evs tm xs = some ys) (hc : FnW P f (fi ++ ys ++ ca) (stL l0) (IsX I r0 l1)) (hle : (stL l0).le σ) (hn : ∀ x, ((l1 x).map (·.1)).Nodup) (hk : ∀ x, I x → K (r0 x) ((σ.apply (dels l0)).apply (outD (l1 x)))) : OpOk P v j ⟨dst, .call { callee := .value x, args := xs.toArray, argTypes := tys }, ty, pos, af, gd⟩ tm σ K := OpK.ok fun Γ G ρ w hv _ hρ hw => by
 obtain ⟨f', args, h1, h2⟩ := kN (v := v) hx hf ha hc hρ hw hle
 rw [h1]
 refine h2.mono fun e w' ⟨x, G', r', σ2, h3, ⟨z, hI, h4, h4'⟩, h5, h6, h7⟩ => ⟨x, h3, G', r0 z, _, h5, fun k v' i hv' _ => h7.low k v' i (Nat.lt_succ_of_le hv'), by rw [← h4]; exact h6, hw.backX hle h7 (Nat.le_succ_of_le hv) fun k τ r hkr => ?_, hk z hI⟩
 rw [bY (l1 z) _ k (hn z)] at hkr
 cases h8 : stL (l1 z) k with
 | some x =>
  rw [h8] at hkr
  cases hkr
  exact Or.inr (h4' _ _ h8)
 | none =>
  rw [h8, eO] at hkr
  cases h9 : stL l0 k with
  | some x => rw [h9] at hkr; cases hkr
  | none => rw [h9] at hkr; exact Or.inl ⟨rfl, hkr⟩
end
section
variable {E : Env} {v j : Nat} {ops : Array Oper} {K : Tm → Store → Prop} {KD : List Foot → Tm → Store → Prop} {acc : List Foot} {rest : List Oper} {tm : Tm} {σ : Store} {ty : TypeId} {pos : String} {af : Array Edge} {gd : Option (Nat × Bool)} {dst : Option Tmp}
theorem S_callX {I : X → Prop} {r0 : X → OV} {l1 : X → List (Nat × (Stamp × Row))} {ys : List OV} {l0 : List (Nat × (Stamp × Row))} (hx : ev tm x = some y) (hf : IsFn y f fi ca) (ha : evs tm xs = some ys) (hc : FnW E.P f (fi ++ ys ++ ca) (stL l0) (IsX I r0 l1)) (hle : (stL l0).le σ) (hn : ∀ x, ((l1 x).map (·.1)).Nodup) (hcont : ∀ x, I x → AO E.P v ops K (j + 1) rest (tm.putO dst (r0 x)) ((σ.apply (dels l0)).apply (outD (l1 x)))) : AO E.P v ops K j (⟨dst, .call { callee := .value x, args := xs.toArray, argTypes := tys }, ty, pos, af, none⟩ :: rest) tm σ :=
 pX (C_callX hx hf ha hc hle hn hcont)
end
section
variable {E : Env} {v j : Nat} {ops : Array Oper} {K : Tm → Store → Prop} {KD : List Foot → Tm → Store → Prop} {acc : List Foot} {rest : List Oper} {tm : Tm} {σ : Store} {ty : TypeId} {pos : String} {af : Array Edge} {gd : Option (Nat × Bool)} {dst : Option Tmp}
structure KeyOf (d k : Nat) : Prop where
 ok : True
theorem qF {d k : Nat} {T : TypeId} (hm : KeyOf d k) (hT : E.tab T = some te) : YL E.P v j ⟨some d, .alloc T, ty, pos, af, gd⟩ tm σ [] (.lo k (v, j) te.size 0 0) [(k, some ((v, j), ⟨te.size, [consts te.zero]⟩))] :=
 fun σ _ Γ G ρ w hv hf _ hw => by
 obtain ⟨z, hz, hzc⟩ := xK (E.ok T te hT) w
 obtain ⟨_, i, z', _, _, _, _, _, hlen, hone⟩ := E.ok T te hT
 have hr : (execOp ρ ⟨some d, .alloc T, ty, pos, af, gd⟩).run E.P w = .ok (.value (.pointer (some ⟨w.heap.size, 0, none⟩))) (w.alloc (.cells z.cells T)) := by
  simp only [execOp, Instr.alloc, Sem.run_bind, hz, Result.andThen_ok, newVar, newRow, run_newObj, Sem.run_pure]; rfl
 rw [hr]
 have hsz : z.cells.size = te.size := by rw [← Array.length_toList, hzc, hlen]
 refine Leaves.alloc hw hv hf z.cells T (by simp [hsz]) (RowAt.one (by rw [hzc]; exact zC hone) (by simp [consts, hlen])) ?_
 rw [RepO]
 exact ⟨_, Gh.name_self _ _ _ _, by simp⟩
theorem S_allocK {d k : Nat} {T : TypeId} (hm : KeyOf d k) (hT : E.tab T = some te) (hcont : AO E.P v ops K (j + 1) rest (tm.putO (some d) (.lo k (v, j) te.size 0 0)) (σ.apply [(k, some ((v, j), ⟨te.size, [consts te.zero]⟩))])) : AO E.P v ops K j (⟨some d, .alloc T, ty, pos, af, none⟩ :: rest) tm σ := uQ (qF hm hT) hcont
end
end
section
attribute [local semireducible] NextOk
theorem ld_lo {E : Env} (hw : WRel Γ G σ w) {T : TypeId} {k : Nat} {rows : List (List OV)} {row : List OV} {x : Value} (hT : E.tab T = some te) (hx : RepO G (.lo k τ s 0 0) x) (hs : σ k = some (τ, ⟨s, rows⟩)) (hr : rows[0]? = some row) (ha : te.k.isAgg = true) (hl : te.size = row.length) : ∃ v, (do loadVar T (← asAddr x) : Sem Value).run E.P w = .ok v w ∧ RepO G (.ag row) v := by
 rw [RepO] at hx
 obtain ⟨β, hμ, h1⟩ := hx
 obtain ⟨cs, h2, h3, h4, h5⟩ := hw.blk hs hμ
 have hget : ∀ j, j < te.size → ∃ v, w.cell? ⟨β.b, 0 * s + 0 + j, none⟩ = some v ∧ ∃ t, row[0 + j]? = some t ∧ RepO G t v := fun j hj => by
  obtain ⟨v, h6, h7⟩ := (h5 0 row hr).2 (0 + j) _ (List.getElem?_eq_getElem (l := row) (i := 0 + j) (by omega))
  exact ⟨v, by simpa [World.cell?, h2, Nat.add_assoc] using h6, _, List.getElem?_eq_getElem (by omega), h7⟩
 have hv : ∀ j, j < te.size → w.cell? ((⟨β.b, 0 * s + 0, none⟩ : Addr).add j) = some ((w.cell? ⟨β.b, 0 * s + 0 + j, none⟩).getD undef) := fun j hj => by
  obtain ⟨v, h3, _⟩ := hget j hj
  rw [xN, h3]; rfl
 have hr' := run_loadCells (P := E.P) w ⟨β.b, 0 * s + 0, none⟩ te.size (fun j => (w.cell? ⟨β.b, 0 * s + 0 + j, none⟩).getD undef) hv
 refine ⟨.agg ((List.range te.size).map (fun j => (w.cell? ⟨β.b, 0 * s + 0 + j, none⟩).getD undef)).toArray, by simp only [h1, asAddr, loadVar, Sem.run_bind, Sem.run_pure, run_isAgg (E.ok T te hT), ha, Result.andThen_ok, if_true, vR (E.ok T te hT), hr'], ?_⟩
 rw [RepO]
 refine ⟨_, rfl, RepOL.of_get (by simp; omega) fun i t v h3 h4 => ?_⟩
 have hi : i < te.size := by
  rcases Nat.lt_or_ge i te.size with h | h
  ·exact h
  ·rw [List.getElem?_eq_none (by simp; omega)] at h4; cases h4
 obtain ⟨u, h5, t', h6, h7⟩ := hget i hi
 have h5' : w.cell? ⟨β.b, i, none⟩ = some u := by simpa using h5
 have e1 : v = u := by simpa [hi, h5'] using h4.symm
 rw [Nat.zero_add, h3] at h6
 cases h6
 rw [e1]; exact h7
def ResAt (E : Env) (tm : Tm) (σ : Store) : ResultVar → OV → Prop
 | .tmp t, r => tm t = some r
 | .cell t T, r => ∃ te k τ row rest, E.tab T = some te ∧ te.k.isAgg = true ∧ te.size = row.length ∧ tm t = some (.lo k τ te.size 0 0) ∧ σ k = some (τ, ⟨te.size, row :: rest⟩) ∧ r = .ag row
def ResAll (E : Env) (tm : Tm) (σ : Store) : List ResultVar → List OV → Prop
 | [], rs => rs = []
 | v :: vs, rs => ∃ r rs', rs = r :: rs' ∧ ResAt E tm σ v r ∧ ResAll E tm σ vs rs'
def packO : List OV → OV
 | [r] => r
 | rs => .tu rs
def DoneN (E : Env) (vs : List ResultVar) (R : OV → Store → Prop) : Exit → Tm → Store → Prop
 | .normal, tm, σ => ∃ rs, ResAll E tm σ vs rs ∧ R (packO rs) σ
 | .ret, tm, σ => ∃ rs, ResAll E tm σ vs rs ∧ R (packO rs) σ
 | _, _, _ => False
def resOne (tmps : Array Value) : ResultVar → Sem Value
 | .tmp t => pure (tmps.getD t undef)
 | .cell a t => do loadVar t (← asAddr (tmps.getD a undef))
theorem rK {E : Env} {n : Nat} {a : Act} (hs : SRel n C G tm σ a w) {v : ResultVar} (h : ResAt E tm σ v r) : ∃ x, (resOne a.tmps v).run E.P w = .ok x w ∧ RepO G r x := by
 cases v with
 | tmp t =>
  exact ⟨_, by simp only [resOne, Sem.run_pure], hs.tm.val h⟩
 | cell t T =>
  obtain ⟨te, k, τ, row, rest, h1, h2, h3, h4, h5, rfl⟩ := h
  have h7 := hs.tm.val h4
  simp only [resOne]
  exact ld_lo hs.w h1 h7 h5 rfl h2 h3
theorem rL {E : Env} {n : Nat} {C : Cx} {G : Gh} {tm : Tm} {σ : Store} {a : Act} {w : World} (hs : SRel n C G tm σ a w) : ∀ {vs : List ResultVar} {rs : List OV}, ResAll E tm σ vs rs → ∃ xs, (vs.mapM (resOne a.tmps)).run E.P w = .ok xs w ∧ RepOL G rs xs
 | [], rs, h => by
  rw [ResAll] at h; subst h
  exact ⟨[], by simp, by rw [RepOL]⟩
 | v :: vs, rs, h => by
  rw [ResAll] at h
  obtain ⟨r, rs', rfl, h1, h2⟩ := h
  obtain ⟨x, h3, h4⟩ := rK hs h1
  obtain ⟨xs, h5, h6⟩ := rL hs h2
  exact ⟨x :: xs, by simp [List.mapM_cons, h3, h5], by rw [RepOL]; exact ⟨x, xs, rfl, h4, h6⟩⟩
def resVal (xs : List Value) : Value := if h : xs.toArray.size = 1 then xs.toArray[0] else .tuple xs.toArray
theorem results_eq (fn : Func) (tmps : Array Value) : results fn tmps = (fn.results.mapM (resOne tmps)) >>= fun vs => pure (if h : vs.size = 1 then vs[0] else .tuple vs) := by
 unfold results
 refine congrArg (· >>= _) (congrArg (fun f => Array.mapM f fn.results) (funext fun x => ?_))
 cases x <;> rfl
theorem results_run {w' : World} {fn : Func} {xs : List Value} (hr : fn.results = vs.toArray) (tmps : Array Value) (h : (vs.mapM (resOne tmps)).run P w = .ok xs w') : (results fn tmps).run P w = .ok (resVal xs) w' := by
 have e : (fn.results.mapM (resOne tmps)).run P w = .ok xs.toArray w' := by
  rw [hr, List.mapM_toArray]
  simp [h]
 rw [results_eq]
 simp only [Sem.run_bind, e, Result.andThen_ok, Sem.run_pure]
 rfl
theorem xL {E : Env} {fn : Func} {n : Nat} (hf : E.P.funcs[f]? = some fn) (hname : (fn.name == "runtime.NumGoroutine") = false) (hb : fn.body = some c) (hn : fn.ntmps = n) (hl : args.length ≤ n) (hr : fn.results = vs.toArray) (h : awp E.P n c (DoneN E vs R) (Tm.ini args) σ0) : FnW E.P f args σ0 R := by
 refine pI hf hname hb hn hl (fun e G tm σ Γ a w hs hd => ?_) h
 have key : (∃ rs, ResAll E tm σ vs rs ∧ R (packO rs) σ) → ∃ x r, (results fn a.tmps).run E.P w = .ok x w ∧ RepO G r x ∧ R r σ := fun ⟨rs, h1, h2⟩ => by
  obtain ⟨xs, h3, h4⟩ := rL hs h1
  refine ⟨resVal xs, packO rs, results_run hr _ h3, ?_, h2⟩
  ·cases rs with
   | nil => rw [RepOL] at h4; subst h4; simp only [packO]; rw [RepO]; exact ⟨#[], rfl, by rw [RepOL]⟩
   | cons r rs =>
    rw [RepOL] at h4
    obtain ⟨x, xs', rfl, h5, h6⟩ := h4
    cases rs with
    | nil => rw [RepOL] at h6; subst h6; exact h5
    | cons r' rs =>
     have h7 := h6
     rw [RepOL] at h6
     obtain ⟨x', xs2, rfl, _, _⟩ := h6
     simp only [packO]
     rw [RepO]
     exact ⟨(x :: x' :: xs2).toArray, by simp [resVal], by rw [RepOL]; exact ⟨_, _, rfl, h5, h7⟩⟩
 cases e <;> first | exact hd.elim | exact ⟨by simp, key hd⟩
end
section
attribute [local semireducible] NextOk
theorem YL.dst {v j : Nat} {d d' : Option Tmp} {op : Op} {ty : TypeId} {pos : String} {af : Array Edge} {gd : Option (Nat × Bool)} (h : YL P v j ⟨d, op, ty, pos, af, gd⟩ tm σ ks r δ) : YL P v j ⟨d', op, ty, pos, af, gd⟩ tm σ ks r δ := h
theorem Leaves.frz {v j : Nat} {x : Value} {k n : Nat} {rows : List (List TV)} (hr : FzR a rows) (hn : n = a.length) (h : Leaves Γ G v j (.os k (v, j) s n) (σ.put k ((v, j), ⟨s, a⟩)) x w) : Leaves Γ G v j (.d (.sl s rows)) (σ.del k) x w := by
 obtain ⟨G', h1, h2, h3, h4⟩ := h
 have hk : (σ.put k ((v, j), ⟨s, a⟩)) k = some ((v, j), ⟨s, rows.map fun r => r.map .d⟩) := by rw [Store.put_self, hr.eq]
 have hl : n = rows.length := by rw [hn, hr.eq, List.length_map]
 have hdel : ∀ {G w}, WRel Γ G ((σ.put k ((v, j), ⟨s, a⟩)).del k) w → WRel Γ G (σ.del k) w := fun h => h.forget fun i y hi => by
  by_cases e : i = k
  ·subst e; rw [Store.del_self] at hi; cases hi
  ·rw [Store.del_ne _ e] at hi ⊢; rw [Store.put_ne _ _ e]; exact hi
 rcases h4.own k _ _ hk with ⟨g1, g3⟩ | ⟨β, g1, _⟩
 ·exact ⟨G', h1, h2, (vL hl).rep (Gh.le.refl G') (Or.inl ⟨g1, List.map_eq_nil_iff.1 g3⟩) h3, hdel (h4.del k)⟩
 ·obtain ⟨M', m1, m2, m3⟩ := h4.freeze hk g1
  have hle : G'.le ⟨M', G'.μ, G'.kn.mono m1⟩ := ⟨m1, fun _ _ _ e => e⟩
  refine ⟨⟨M', G'.μ, G'.kn.mono m1⟩, h1.trans hle, h2, (vL hl).rep hle (Or.inr ⟨β, g1, fun i row hi => ?_⟩) h3, hdel m2⟩
  obtain ⟨e1, e2⟩ := m3 i (row.map .d) (by simp [hi])
  refine ⟨by simpa using e1, RepC.of_get fun o t ho => ?_⟩
  obtain ⟨u, e3, e4⟩ := e2 o (.d t) (by simp [ho])
  rw [RepO] at e4
  exact ⟨u, e3, e4⟩
theorem YL.frz {v j : Nat} {k n : Nat} {rows : List (List TV)} (hr : FzR a rows) (hn : n = a.length) (h : YL P v j o tm σ ks (.os k (v, j) s n) [(k, some ((v, j), ⟨s, a⟩))]) : YL P v j o tm σ ks (.d (.sl s rows)) [(k, none)] := fun σ' hσ Γ G ρ w h1 h2 h3 h4 => by
 have := h σ' hσ Γ G ρ w h1 h2 h3 h4
 generalize (execOp ρ o).run P w = z at *
 cases z with
 | ok nx w =>
  cases nx <;> simp only [NextOk] at this ⊢
  case value x => exact Leaves.frz hr hn this
  case skip => exact Leaves.frz hr hn this
  case enter f args => exact this.mono fun e w' ⟨x, g1, g2⟩ => ⟨x, g1, Leaves.frz hr hn g2⟩
 | halt x w => simp only [NextOk] at this
section
variable {E : Env} {v j : Nat} {ops : Array Oper} {K : Tm → Store → Prop} {KD : List Foot → Tm → Store → Prop} {acc : List Foot} {rest : List Oper} {tm : Tm} {σ : Store} {ty : TypeId} {pos : String} {af : Array Edge}
theorem S_ownF {d : Nat} {rowsF : List (List TV)} {ys : List OV} {rows : List (List OV)} (hmF : Frozen d) (hx : ev tm x = some y) (hf : IsFn y f fi ca) (ha : evs tm xs = some ys) (hc : Own E.P f (fi ++ ys ++ ca) s rows) (hrF : FzR (rows) rowsF) (hnF : rows.length = (rows).length) (hcont : AO E.P v ops K (j + 1) rest (tm.putO (some d) (.d (.sl s rowsF))) (σ.apply [(d, none)])) : AO E.P v ops K j (⟨some d, .call { callee := .value x, args := xs.toArray, argTypes := tys }, ty, pos, af, none⟩ :: rest) tm σ := uQ (YL.frz hrF hnF (uBB hx hf ha hc)) hcont
structure Keep (d : Nat) : Prop where
 ok : True
end
structure FzT (y : OV) (t : TV) : Prop where
 eq : y.toTV = some t
structure FzTs (ys : List OV) (ts : List TV) : Prop where
 eq : OV.toTVs ys = some ts
theorem FzT.d (t : TV) : FzT (.d t) t := ⟨by rw [OV.toTV]⟩
theorem FzTs.nil : FzTs [] [] := ⟨by rw [OV.toTVs]⟩
theorem FzTs.cons {y : OV} {ys : List OV} {t : TV} {ts : List TV} (h : FzT y t) (h' : FzTs ys ts) : FzTs (y :: ys) (t :: ts) := ⟨by rw [OV.toTVs, h.eq, h'.eq]⟩
theorem FzT.fn {a b : List TV} (h : FzTs fi a) (h' : FzTs ca b) : FzT (.fn f fi ca) (.fn f a b) := ⟨by rw [OV.toTV, h.eq, h'.eq]⟩
theorem FzTs.map (ts : List TV) : FzTs (ts.map .d) ts := ⟨by
 induction ts with
 | nil => rw [List.map_nil, OV.toTVs]
 | cons t ts ih => rw [List.map_cons, OV.toTVs, ih, OV.toTV]⟩
theorem Leaves.frzB {v j : Nat} {x : Value} {k n : Nat} (hc : FzTs cs row) (h : Leaves Γ G v j (.lo k (v, j) n 0 0) (σ.put k ((v, j), ⟨n, [cs]⟩)) x w) : Leaves Γ G v j (.d (.pt row 0)) (σ.del k) x w := by
 obtain ⟨G', h1, h2, h3, h4⟩ := h
 have hk : (σ.put k ((v, j), ⟨n, [cs]⟩)) k = some ((v, j), ⟨n, [cs]⟩) := Store.put_self _ _ _
 have hdel : ∀ {G w}, WRel Γ G ((σ.put k ((v, j), ⟨n, [cs]⟩)).del k) w → WRel Γ G (σ.del k) w := fun h => h.forget fun i y hi => by
  by_cases e : i = k
  ·subst e; rw [Store.del_self] at hi; cases hi
  ·rw [Store.del_ne _ e] at hi ⊢; rw [Store.put_ne _ _ e]; exact hi
 rw [RepO] at h3
 obtain ⟨β, g1, g2⟩ := h3
 obtain ⟨M', m1, m2, m3⟩ := h4.freeze hk g1
 have hle : G'.le ⟨M', G'.μ, G'.kn.mono m1⟩ := ⟨m1, fun _ _ _ e => e⟩
 refine ⟨⟨M', G'.μ, G'.kn.mono m1⟩, h1.trans hle, h2, ?_, hdel m2⟩
 rw [RepO, Rep]
 refine ⟨_, _, g2, RepC.of_get fun o t ho => ?_⟩
 obtain ⟨y, e1, e2⟩ := OV.toTVs_get hc.eq ho
 obtain ⟨u, e3, e4⟩ := (m3 0 cs rfl).2 o y e1
 exact ⟨u, e3, OV.toTV_rep y t u e2 e4⟩
theorem YL.frzB {v j : Nat} {k n : Nat} (hc : FzTs cs row) (h : YL P v j o tm σ ks (.lo k (v, j) n 0 0) [(k, some ((v, j), ⟨n, [cs]⟩))]) : YL P v j o tm σ ks (.d (.pt row 0)) [(k, none)] := fun σ' hσ Γ G ρ w h1 h2 h3 h4 => by
 have := h σ' hσ Γ G ρ w h1 h2 h3 h4
 generalize (execOp ρ o).run P w = z at *
 cases z with
 | ok nx w =>
  cases nx <;> simp only [NextOk] at this ⊢
  case value x => exact Leaves.frzB hc this
  case skip => exact Leaves.frzB hc this
  case enter f args => exact this.mono fun e w' ⟨x, g1, g2⟩ => ⟨x, g1, Leaves.frzB hc g2⟩
 | halt x w => simp only [NextOk] at this
theorem SRel.freezeB {n : Nat} {a : Act} {k : Nat} (hs : SRel n C G tm σ a w) (hk : σ k = some (τ, ⟨s, [cs]⟩)) (hc : FzTs cs row) (ht : FrozT k τ s [row] tm tm') (hσ : FrozS k τ s [row] σ σ') :
  ∃ G', G.le G' ∧ G'.μ = G.μ ∧ SRel n C G' tm' σ' a w := by
 rcases hs.w.own k τ _ hk with ⟨h1, h2⟩ | ⟨β, h1, h2, h3, h4⟩
 ·cases h2
 obtain ⟨M', g1, g2, g3⟩ := hs.w.freeze hk h1
 have hle : G.le ⟨M', G.μ, G.kn.mono g1⟩ := ⟨g1, fun _ _ _ e => e⟩
 have hcc : (G.μ k τ = some none ∧ [row] = []) ∨ ∃ β, G.μ k τ = some (some β) ∧ ∀ i row', [row][i]? = some row' → row'.length = s ∧ RepC M' row' β.b (i * s) := by
  refine Or.inr ⟨β, h1, fun i row' hi => ?_⟩
  cases i with
  | succ i => simp at hi
  | zero =>
   simp at hi
   subst hi
   obtain ⟨e1, e2⟩ := g3 0 cs rfl
   refine ⟨by rw [OV.toTVs_length hc.eq]; exact e1, RepC.of_get fun o t ho => ?_⟩
   obtain ⟨y, e3, e4⟩ := OV.toTVs_get hc.eq ho
   obtain ⟨u, e5, e6⟩ := e2 o y e3
   exact ⟨u, e5, OV.toTV_rep y t u e4 e6⟩
 have hr : ∀ y y' x, Froz k τ s [row] y y' → RepO ⟨M', G.μ, G.kn.mono g1⟩ y x → RepO ⟨M', G.μ, G.kn.mono g1⟩ y' x := fun y y' x hf hx => hf.rep (Gh.le.refl _) hcc hx
 refine ⟨⟨M', G.μ, G.kn.mono g1⟩, hle, rfl, hs.size, hs.defers, fun t y' hy => ?_, g2.froz hσ hr, hs.fix, hs.marks, fun i Y hi => ?_⟩
 ·obtain ⟨y, e1, e2⟩ := ht t y' hy
  rcases hs.tm t y e1 with ⟨i, Y, rfl⟩ | ⟨x, e3, e4⟩
  ·cases e2; exact Or.inl ⟨i, Y, rfl⟩
  ·exact Or.inr ⟨x, e3, hr _ _ _ e2 (e4.mono hle)⟩
 ·obtain ⟨y, e1, e2⟩ := ht GS _ hi
  cases e2
  exact ⟨(hs.gh i Y e1).1, (hs.gh i Y e1).2.1.trans hle, (hs.gh i Y e1).2.2⟩
theorem OpT.frzB {v j : Nat} {K1 K : Tm → Store → Prop} (h : OpT P v j o tm σ K1) (hk : ∀ tm1 σ1, K1 tm1 σ1 → ∃ k τ s cs row tm2 σ2, σ1 k = some (τ, ⟨s, [cs]⟩) ∧ FzTs cs row ∧ FrozT k τ s [row] tm1 tm2 ∧ FrozS k τ s [row] σ1 σ2 ∧ K tm2 σ2) : OpT P v j o tm σ K := fun n C G a w ro next Q hd hro hN hfr hs hn =>
 h n C G a w ro next Q hd hro hN hfr hs fun C' G' tm1 σ1 a' w' h0 h1 h2 h3 h4 => by
  obtain ⟨k, τ, s, cs, row, tm2, σ2, e1, e2, e3, e4, e5⟩ := hk _ _ h4
  obtain ⟨G2, g1, g2, g3⟩ := h3.freezeB e1 e2 e3 e4
  exact hn C' G2 tm2 σ2 a' w' h0 (h1.trans g1) (fun k v' i a b => by rw [g2]; exact h2 k v' i a b) g3 e5
theorem setAt_all {row ys : List OV} (h : ys.length = row.length) : setAt row 0 ys = ys := by simp [setAt, h]
section
variable {E : Env} {v j : Nat} {tm : Tm} {σ : Store} {ty : TypeId} {pos : String} {af : Array Edge} {gd : Option (Nat × Bool)} {dst : Option Tmp}
inductive EvPM (tm : Tm) : List (Nat × Operand) → List (Nat × OV) → Prop where
 | nil : EvPM tm [] []
 | cons {i : Nat} {x : Operand} {y : OV} {ps : List (Nat × Operand)} {ys : List (Nat × OV)} (h : EvM tm x y) (hs : EvPM tm ps ys) : EvPM tm ((i, x) :: ps) ((i, y) :: ys)
theorem EvPM.st {ps : List (Nat × Operand)} (h : EvPM tm ps ys) : evParts (Go.Proofs.YtjogffchdejabaaGreatDoor.strip tm) ps = some ys := by
 induction h with
 | nil => rfl
 | cons h _ ih => simp only [evParts, h.st, ih]
theorem uAZ {t T : Nat} {k : Nat} {row : List OV} {rest : List (List OV)} (hT : E.tab T = some te) (ha : te.k.isAgg = true) (hs : te.size = row.length) (ht : tm t = some (.lo k τ te.size 0 0)) (hk : σ k = some (τ, ⟨te.size, row :: rest⟩)) (hR : R (.ag row) σ) : DoneN E [.cell t T] R .ret tm σ :=
 ⟨_, ⟨_, _, rfl, ⟨_, _, _, _, _, hT, ha, hs, ht, hk, rfl⟩, rfl⟩, hR⟩
theorem uAQ {t u : Nat} {s : OV} (ht : tm t = some r) (hu : tm u = some s) (hR : R (.tu [r, s]) σ) : DoneN E [.tmp t, .tmp u] R .ret tm σ :=
 ⟨_, ⟨_, _, rfl, ht, _, _, rfl, hu, rfl⟩, hR⟩
def nfix : OV → OV
 | .d (.c (.slice none 0 0)) => .d (.sl 1 [])
 | y => y
theorem nfix_rep {x : Value} (h : RepO G y x) : RepO G (nfix y) x := by
 unfold nfix
 split
 ·have e := vA h
  subst e
  rw [RepO, Rep]
  exact ⟨none, 0, rfl, Nat.le_refl _, Or.inl rfl⟩
 ·exact h
theorem lU {G : Gh} : ∀ {ys : List OV} {xs : List Value}, RepOL G ys xs → RepOL G (ys.map nfix) xs
 | [], xs, h => by rw [List.map_nil]; exact h
 | y :: ys, xs, h => by
  rw [RepOL] at h
  obtain ⟨x, us, rfl, h1, h2⟩ := h
  rw [List.map_cons, RepOL]
  exact ⟨x, us, rfl, nfix_rep h1, lU h2⟩
theorem YL.weakR {v j : Nat} {tm : Tm} {σ : Store} {r' : OV} (h : YL P v j o tm σ ks r δ) (hw : ∀ G x, RepO G r x → RepO G r' x) : YL P v j o tm σ ks r' δ := fun σ' hσ Γ G ρ w h1 h2 h3 h4 => by
 have := h σ' hσ Γ G ρ w h1 h2 h3 h4
 have lv : ∀ x w, Leaves Γ G v j r (σ'.apply δ) x w → Leaves Γ G v j r' (σ'.apply δ) x w := fun x w ⟨G', g1, g2, g3, g4⟩ => ⟨G', g1, g2, hw _ _ g3, g4⟩
 generalize (execOp ρ o).run P w = z at *
 cases z with
 | ok nx w =>
  cases nx <;> simp only [NextOk] at this ⊢
  case value x => exact lv _ _ this
  case skip => exact lv _ _ this
  case enter f args => exact this.mono fun e w' ⟨x, g1, g2⟩ => ⟨x, g1, lv _ _ g2⟩
 | halt x w => simp only [NextOk] at this
structure NilS (d : Nat) : Prop where
 ok : True
theorem nfix_ag {x : Value} (h : RepO G (.ag cs) x) : RepO G (.ag (cs.map nfix)) x := by
 rw [RepO] at h ⊢
 obtain ⟨us, h1, h2⟩ := h
 exact ⟨us, h1, lU h2⟩
end
section
variable {E : Env} {v j : Nat} {ops : Array Oper} {K : Tm → Store → Prop} {KD : List Foot → Tm → Store → Prop} {acc : List Foot} {rest : List Oper} {tm : Tm} {σ : Store} {ty : TypeId} {pos : String} {af : Array Edge}
theorem S_boxF {d : Nat} {T : TypeId} {n : Nat} (hmF : Frozen d) (hx : ev tm x = some y) (hw' : y.wide = true) (hn : y.cells.length = n) (hr : FzTs y.cells row) (hcont : AO E.P v ops K (j + 1) rest (tm.putO (some d) (.d (.pt row 0))) (σ.apply [(d, none)])) : AO E.P v ops K j (⟨some d, .box T x, ty, pos, af, none⟩ :: rest) tm σ := uQ (YL.frzB hr (uAK hx hw' hn)) hcont
theorem S_storeF {d : Nat} {T : TypeId} {z : Operand} {row0 : List OV} (hmF : Frozen d) (hT : E.tab T = some te) (hx : tm d = some (.lo d τ s 0 0)) (hz : ev tm z = some y) (hw' : y.wide = true) (hn : y.cells.length = te.size) (hs : σ d = some (τ, ⟨s, [row0]⟩)) (hl : row0.length = te.size) (hr : FzTs y.cells row) (hcont : AO E.P v ops K (j + 1) rest (tm.put d (.d (.pt row 0))) (σ.apply [(d, none)])) : AO E.P v ops K j (⟨none, .store T (.tmp d) z, ty, pos, af, none⟩ :: rest) tm σ :=
 ao_t (OpT.frzB ((iX (x := .tmp d) (i := 0) (row := row0) hT (show ev tm (.tmp d) = _ from hx) hz hw' hn hs rfl (by omega)).ok (K := fun r' σ' => r' = OV.un ∧ σ' = σ.apply [(d, some (τ, ⟨s, [row0].set 0 (setAt row0 0 y.cells)⟩))]) ⟨rfl, rfl⟩) fun tm1 σ1 ⟨r, h1, h2, h3⟩ => by
  subst h1 h2 h3
  refine ⟨d, τ, s, _, row, _, _, Store.put_self _ _ _, ?_, ?_, ?_, hcont⟩
  ·rw [setAt_all (by omega)]; exact hr
  ·intro t y' hy
   by_cases e : t = d
   ·subst e
    rw [Tm.put_self] at hy
    cases hy
    exact ⟨_, hx, .lo 0 0 row rfl⟩
   ·rw [Tm.put_ne _ _ e] at hy
    exact ⟨y', hy, .same _⟩
  ·intro i τ' r' hi
   by_cases e : i = d
   ·subst e
    have : (σ.del i) i = some (τ', r') := hi
    rw [Store.del_self] at this; cases this
   ·have h9 : (σ.del d) i = some (τ', r') := hi
    rw [Store.del_ne _ e] at h9
    exact ⟨e, r', (Store.put_ne _ _ e).trans h9, FrozR.same _⟩)
end
end
section
attribute [local semireducible] NextOk
section
variable {E : Env} {v j : Nat} {ops : Array Oper} {K : Tm → Store → Prop} {KD : List Foot → Tm → Store → Prop} {acc : List Foot} {rest : List Oper} {tm : Tm} {σ : Store} {ty : TypeId} {pos : String} {af : Array Edge} {gd : Option (Nat × Bool)} {dst : Option Tmp}
theorem q34 {d : Nat} {T : TypeId} {n : Nat} (hcont : AO E.P v ops K (j + 1) rest (tm.putO (some d) (.d (.pt row 0))) (σ.apply [(d, none)])) (hmF : Frozen d := by assumption) (hx : ev tm x = some y := by exact rfl) (hw' : y.wide = true := by exact rfl) (hn : y.cells.length = n := by exact rfl) (hr : FzTs y.cells row := by (repeat (first | exact FzTs.nil | exact FzTs.map _ | apply FzTs.cons | exact FzT.d _ | apply FzT.fn | assumption))) : AO E.P v ops K j (⟨some d, .box T x, ty, pos, af, none⟩ :: rest) tm σ := S_boxF hmF hx hw' hn hr hcont
end
end
end Go.Proofs.YtjogffchdejabaaGreatDoor
