/- The steps of a walk, one for each operation (printed by program out of the Y_ lemmas). -/
import Derived.Test.YtgeaaegkcbjhlaaGreatRows
import Derived.WalkKit
import Derived.WalkSpells
import Derived.WalkLawsBesides
import Derived.Deep.QuietTactic
import Derived.BigQuiet
import Derived.ProofKit
import Derived.Lib.Hide
import Derived.Deep.DeepCutAuto
import Derived.Test.YtgeaaegkcbjhlaaGreatPc2
set_option linter.unusedSimpArgs false
set_option linter.unusedVariables false
namespace Go.Proofs.YtgeaaegkcbjhlaaGreat
open Go.RowKit
section
variable {E : Env} {v j : Nat} {ops : Array Oper} {K : Tm → Store → Prop} {KD : List Foot → Tm → Store → Prop} {acc : List Foot} {rest : List Oper} {tm : Tm} {σ : Store} {ty : TypeId} {pos : String} {af : Array Edge}
theorem S_move {dst : Option Tmp} {x : Operand} {y : OV} (h : ev tm x = some y) (hcont : AO E.P v ops K (j + 1) rest (tm.putO dst y) (σ.apply [])) : AO E.P v ops K j (⟨dst, .move x, ty, pos, af, none⟩ :: rest) tm σ := ao_step (Y_move h) hcont
theorem D_move {dst : Option Tmp} {x : Operand} {y : OV} (h : ev tm x = some y) (hcont : DO E.P v ops KD (j + 1) rest (tm.putO dst y) (σ.apply []) (Foot.mk [] (wkeys []) :: acc)) : DO E.P v ops KD j (⟨dst, .move x, ty, pos, af, none⟩ :: rest) tm σ acc := do_step (Y_move h) hcont
theorem M_move {dst : Option Tmp} {gd : Option (Nat × Bool)} {x : Operand} {y : OV} (h : EvM tm x y) : YL E.P v j ⟨dst, .move x, ty, pos, af, gd⟩ tm σ [] y [] := (Y_move h.st).strip
theorem S_assign {dst : Option Tmp} {x : Operand} {y : OV} (h : ev tm x = some y) (hcont : AO E.P v ops K (j + 1) rest (tm.putO dst y) (σ.apply [])) : AO E.P v ops K j (⟨dst, .assign x, ty, pos, af, none⟩ :: rest) tm σ := ao_step (Y_assign h) hcont
theorem D_assign {dst : Option Tmp} {x : Operand} {y : OV} (h : ev tm x = some y) (hcont : DO E.P v ops KD (j + 1) rest (tm.putO dst y) (σ.apply []) (Foot.mk [] (wkeys []) :: acc)) : DO E.P v ops KD j (⟨dst, .assign x, ty, pos, af, none⟩ :: rest) tm σ acc := do_step (Y_assign h) hcont
theorem S_add64 {dst : Option Tmp} {T T' : TypeId} {x y : Operand} {a b : Int} (hx : ev tm x = some (.int .i64 a)) (hy : ev tm y = some (.int .i64 b)) (h : -9223372036854775808 ≤ a + b ∧ a + b ≤ 9223372036854775807) (hcont : AO E.P v ops K (j + 1) rest (tm.putO dst (.int .i64 (a + b))) (σ.apply [])) : AO E.P v ops K j (⟨dst, .binOp .add T x y T', ty, pos, af, none⟩ :: rest) tm σ := ao_step (Y_add64 hx hy h) hcont
theorem D_add64 {dst : Option Tmp} {T T' : TypeId} {x y : Operand} {a b : Int} (hx : ev tm x = some (.int .i64 a)) (hy : ev tm y = some (.int .i64 b)) (h : -9223372036854775808 ≤ a + b ∧ a + b ≤ 9223372036854775807) (hcont : DO E.P v ops KD (j + 1) rest (tm.putO dst (.int .i64 (a + b))) (σ.apply []) (Foot.mk [] (wkeys []) :: acc)) : DO E.P v ops KD j (⟨dst, .binOp .add T x y T', ty, pos, af, none⟩ :: rest) tm σ acc := do_step (Y_add64 hx hy h) hcont
theorem M_sub64 {dst : Option Tmp} {gd : Option (Nat × Bool)} {T T' : TypeId} {x y : Operand} {a b : Int} (hx : EvM tm x (.int .i64 a)) (hy : EvM tm y (.int .i64 b)) (h : -9223372036854775808 ≤ a - b ∧ a - b ≤ 9223372036854775807) : YL E.P v j ⟨dst, .binOp .sub T x y T', ty, pos, af, gd⟩ tm σ [] (.int .i64 (a - b)) [] := (Y_sub64 hx.st hy.st h).strip
theorem M_rem {dst : Option Tmp} {gd : Option (Nat × Bool)} {T T' : TypeId} {x y : Operand} {k : IntKind} {a b : Int} (hx : EvM tm x (.int k a)) (hy : EvM tm y (.int k b)) (hb : b ≠ 0) : YL E.P v j ⟨dst, .binOp .rem T x y T', ty, pos, af, gd⟩ tm σ [] (.int k (a.tmod b)) [] := (Y_rem hx.st hy.st hb).strip
theorem S_eql {dst : Option Tmp} {T T' : TypeId} {x y : Operand} {k : IntKind} {a b : Int} (hx : ev tm x = some (.int k a)) (hy : ev tm y = some (.int k b)) (hcont : AO E.P v ops K (j + 1) rest (tm.putO dst (.bool (decide (a = b)))) (σ.apply [])) : AO E.P v ops K j (⟨dst, .binOp .eql T x y T', ty, pos, af, none⟩ :: rest) tm σ := ao_step (Y_eql hx hy) hcont
theorem D_eql {dst : Option Tmp} {T T' : TypeId} {x y : Operand} {k : IntKind} {a b : Int} (hx : ev tm x = some (.int k a)) (hy : ev tm y = some (.int k b)) (hcont : DO E.P v ops KD (j + 1) rest (tm.putO dst (.bool (decide (a = b)))) (σ.apply []) (Foot.mk [] (wkeys []) :: acc)) : DO E.P v ops KD j (⟨dst, .binOp .eql T x y T', ty, pos, af, none⟩ :: rest) tm σ acc := do_step (Y_eql hx hy) hcont
theorem M_eql {dst : Option Tmp} {gd : Option (Nat × Bool)} {T T' : TypeId} {x y : Operand} {k : IntKind} {a b : Int} (hx : EvM tm x (.int k a)) (hy : EvM tm y (.int k b)) : YL E.P v j ⟨dst, .binOp .eql T x y T', ty, pos, af, gd⟩ tm σ [] (.bool (decide (a = b))) [] := (Y_eql hx.st hy.st).strip
theorem S_neq {dst : Option Tmp} {T T' : TypeId} {x y : Operand} {k : IntKind} {a b : Int} (hx : ev tm x = some (.int k a)) (hy : ev tm y = some (.int k b)) (hcont : AO E.P v ops K (j + 1) rest (tm.putO dst (.bool (!decide (a = b)))) (σ.apply [])) : AO E.P v ops K j (⟨dst, .binOp .neq T x y T', ty, pos, af, none⟩ :: rest) tm σ := ao_step (Y_neq hx hy) hcont
theorem D_neq {dst : Option Tmp} {T T' : TypeId} {x y : Operand} {k : IntKind} {a b : Int} (hx : ev tm x = some (.int k a)) (hy : ev tm y = some (.int k b)) (hcont : DO E.P v ops KD (j + 1) rest (tm.putO dst (.bool (!decide (a = b)))) (σ.apply []) (Foot.mk [] (wkeys []) :: acc)) : DO E.P v ops KD j (⟨dst, .binOp .neq T x y T', ty, pos, af, none⟩ :: rest) tm σ acc := do_step (Y_neq hx hy) hcont
theorem M_neq {dst : Option Tmp} {gd : Option (Nat × Bool)} {T T' : TypeId} {x y : Operand} {k : IntKind} {a b : Int} (hx : EvM tm x (.int k a)) (hy : EvM tm y (.int k b)) : YL E.P v j ⟨dst, .binOp .neq T x y T', ty, pos, af, gd⟩ tm σ [] (.bool (!decide (a = b))) [] := (Y_neq hx.st hy.st).strip
theorem S_lss {dst : Option Tmp} {T T' : TypeId} {x y : Operand} {k : IntKind} {a b : Int} (hx : ev tm x = some (.int k a)) (hy : ev tm y = some (.int k b)) (hcont : AO E.P v ops K (j + 1) rest (tm.putO dst (.bool (decide (a < b)))) (σ.apply [])) : AO E.P v ops K j (⟨dst, .binOp .lss T x y T', ty, pos, af, none⟩ :: rest) tm σ := ao_step (Y_lss hx hy) hcont
theorem D_lss {dst : Option Tmp} {T T' : TypeId} {x y : Operand} {k : IntKind} {a b : Int} (hx : ev tm x = some (.int k a)) (hy : ev tm y = some (.int k b)) (hcont : DO E.P v ops KD (j + 1) rest (tm.putO dst (.bool (decide (a < b)))) (σ.apply []) (Foot.mk [] (wkeys []) :: acc)) : DO E.P v ops KD j (⟨dst, .binOp .lss T x y T', ty, pos, af, none⟩ :: rest) tm σ acc := do_step (Y_lss hx hy) hcont
theorem M_lss {dst : Option Tmp} {gd : Option (Nat × Bool)} {T T' : TypeId} {x y : Operand} {k : IntKind} {a b : Int} (hx : EvM tm x (.int k a)) (hy : EvM tm y (.int k b)) : YL E.P v j ⟨dst, .binOp .lss T x y T', ty, pos, af, gd⟩ tm σ [] (.bool (decide (a < b))) [] := (Y_lss hx.st hy.st).strip
theorem S_gtr {dst : Option Tmp} {T T' : TypeId} {x y : Operand} {k : IntKind} {a b : Int} (hx : ev tm x = some (.int k a)) (hy : ev tm y = some (.int k b)) (hcont : AO E.P v ops K (j + 1) rest (tm.putO dst (.bool (decide (b < a)))) (σ.apply [])) : AO E.P v ops K j (⟨dst, .binOp .gtr T x y T', ty, pos, af, none⟩ :: rest) tm σ := ao_step (Y_gtr hx hy) hcont
theorem M_gtr {dst : Option Tmp} {gd : Option (Nat × Bool)} {T T' : TypeId} {x y : Operand} {k : IntKind} {a b : Int} (hx : EvM tm x (.int k a)) (hy : EvM tm y (.int k b)) : YL E.P v j ⟨dst, .binOp .gtr T x y T', ty, pos, af, gd⟩ tm σ [] (.bool (decide (b < a))) [] := (Y_gtr hx.st hy.st).strip
theorem S_geq {dst : Option Tmp} {T T' : TypeId} {x y : Operand} {k : IntKind} {a b : Int} (hx : ev tm x = some (.int k a)) (hy : ev tm y = some (.int k b)) (hcont : AO E.P v ops K (j + 1) rest (tm.putO dst (.bool (decide (b ≤ a)))) (σ.apply [])) : AO E.P v ops K j (⟨dst, .binOp .geq T x y T', ty, pos, af, none⟩ :: rest) tm σ := ao_step (Y_geq hx hy) hcont
theorem D_geq {dst : Option Tmp} {T T' : TypeId} {x y : Operand} {k : IntKind} {a b : Int} (hx : ev tm x = some (.int k a)) (hy : ev tm y = some (.int k b)) (hcont : DO E.P v ops KD (j + 1) rest (tm.putO dst (.bool (decide (b ≤ a)))) (σ.apply []) (Foot.mk [] (wkeys []) :: acc)) : DO E.P v ops KD j (⟨dst, .binOp .geq T x y T', ty, pos, af, none⟩ :: rest) tm σ acc := do_step (Y_geq hx hy) hcont
theorem M_geq {dst : Option Tmp} {gd : Option (Nat × Bool)} {T T' : TypeId} {x y : Operand} {k : IntKind} {a b : Int} (hx : EvM tm x (.int k a)) (hy : EvM tm y (.int k b)) : YL E.P v j ⟨dst, .binOp .geq T x y T', ty, pos, af, gd⟩ tm σ [] (.bool (decide (b ≤ a))) [] := (Y_geq hx.st hy.st).strip
theorem D_neqB {dst : Option Tmp} {T T' : TypeId} {x y : Operand} {a b : Bool} {te : TE} (hT : E.tab T = some te) (hk : te.k = .sc .bool) (hx : ev tm x = some (.bool a)) (hy : ev tm y = some (.bool b)) (hcont : DO E.P v ops KD (j + 1) rest (tm.putO dst (.bool (!(a == b)))) (σ.apply []) (Foot.mk [] (wkeys []) :: acc)) : DO E.P v ops KD j (⟨dst, .binOp .neq T x y T', ty, pos, af, none⟩ :: rest) tm σ acc := do_step (Y_neqB hT hk hx hy) hcont
theorem S_not {dst : Option Tmp} {T : TypeId} {x : Operand} {b : Bool} (hx : ev tm x = some (.bool b)) (hcont : AO E.P v ops K (j + 1) rest (tm.putO dst (.bool (!b))) (σ.apply [])) : AO E.P v ops K j (⟨dst, .unOp .not T x, ty, pos, af, none⟩ :: rest) tm σ := ao_step (Y_not hx) hcont
theorem D_not {dst : Option Tmp} {T : TypeId} {x : Operand} {b : Bool} (hx : ev tm x = some (.bool b)) (hcont : DO E.P v ops KD (j + 1) rest (tm.putO dst (.bool (!b))) (σ.apply []) (Foot.mk [] (wkeys []) :: acc)) : DO E.P v ops KD j (⟨dst, .unOp .not T x, ty, pos, af, none⟩ :: rest) tm σ acc := do_step (Y_not hx) hcont
theorem M_not {dst : Option Tmp} {gd : Option (Nat × Bool)} {T : TypeId} {x : Operand} {b : Bool} (hx : EvM tm x (.bool b)) : YL E.P v j ⟨dst, .unOp .not T x, ty, pos, af, gd⟩ tm σ [] (.bool (!b)) [] := (Y_not hx.st).strip
theorem S_fieldAddr_pt {dst : Option Tmp} {T : TypeId} {x : Operand} {f : Nat} {te fe : TE} {fs : List (Nat × TypeId)} {o : Nat} {ft : TypeId} {row : List TV} {p : Nat} (hT : E.tab T = some te) (hk : te.k = .st fs) (hf : fs[f]? = some (o, ft)) (hF : E.tab ft = some fe) (hz : fe.size ≠ 0) (hx : ev tm x = some (.d (.pt row p))) (hcont : AO E.P v ops K (j + 1) rest (tm.putO dst (.d (.pt row (p + o)))) (σ.apply [])) : AO E.P v ops K j (⟨dst, .fieldAddr T x f, ty, pos, af, none⟩ :: rest) tm σ := ao_step (Y_fieldAddr_pt hT hk hf hF hz hx) hcont
theorem D_fieldAddr_pt {dst : Option Tmp} {T : TypeId} {x : Operand} {f : Nat} {te fe : TE} {fs : List (Nat × TypeId)} {o : Nat} {ft : TypeId} {row : List TV} {p : Nat} (hT : E.tab T = some te) (hk : te.k = .st fs) (hf : fs[f]? = some (o, ft)) (hF : E.tab ft = some fe) (hz : fe.size ≠ 0) (hx : ev tm x = some (.d (.pt row p))) (hcont : DO E.P v ops KD (j + 1) rest (tm.putO dst (.d (.pt row (p + o)))) (σ.apply []) (Foot.mk [] (wkeys []) :: acc)) : DO E.P v ops KD j (⟨dst, .fieldAddr T x f, ty, pos, af, none⟩ :: rest) tm σ acc := do_step (Y_fieldAddr_pt hT hk hf hF hz hx) hcont
theorem M_fieldAddr_pt {dst : Option Tmp} {gd : Option (Nat × Bool)} {T : TypeId} {x : Operand} {f : Nat} {te fe : TE} {fs : List (Nat × TypeId)} {o : Nat} {ft : TypeId} {row : List TV} {p : Nat} (hT : E.tab T = some te) (hk : te.k = .st fs) (hf : fs[f]? = some (o, ft)) (hF : E.tab ft = some fe) (hz : fe.size ≠ 0) (hx : EvM tm x (.d (.pt row p))) : YL E.P v j ⟨dst, .fieldAddr T x f, ty, pos, af, gd⟩ tm σ [] (.d (.pt row (p + o))) [] := (Y_fieldAddr_pt hT hk hf hF hz hx.st).strip
theorem S_fieldAddr_lo {dst : Option Tmp} {T : TypeId} {x : Operand} {f : Nat} {te fe : TE} {fs : List (Nat × TypeId)} {o : Nat} {ft : TypeId} {k : Nat} {τ : Stamp} {s i p : Nat} (hT : E.tab T = some te) (hk : te.k = .st fs) (hf : fs[f]? = some (o, ft)) (hF : E.tab ft = some fe) (hz : fe.size ≠ 0) (hx : ev tm x = some (.lo k τ s i p)) (hcont : AO E.P v ops K (j + 1) rest (tm.putO dst (.lo k τ s i (p + o))) (σ.apply [])) : AO E.P v ops K j (⟨dst, .fieldAddr T x f, ty, pos, af, none⟩ :: rest) tm σ := ao_step (Y_fieldAddr_lo hT hk hf hF hz hx) hcont
theorem D_fieldAddr_lo {dst : Option Tmp} {T : TypeId} {x : Operand} {f : Nat} {te fe : TE} {fs : List (Nat × TypeId)} {o : Nat} {ft : TypeId} {k : Nat} {τ : Stamp} {s i p : Nat} (hT : E.tab T = some te) (hk : te.k = .st fs) (hf : fs[f]? = some (o, ft)) (hF : E.tab ft = some fe) (hz : fe.size ≠ 0) (hx : ev tm x = some (.lo k τ s i p)) (hcont : DO E.P v ops KD (j + 1) rest (tm.putO dst (.lo k τ s i (p + o))) (σ.apply []) (Foot.mk [] (wkeys []) :: acc)) : DO E.P v ops KD j (⟨dst, .fieldAddr T x f, ty, pos, af, none⟩ :: rest) tm σ acc := do_step (Y_fieldAddr_lo hT hk hf hF hz hx) hcont
theorem M_fieldAddr_lo {dst : Option Tmp} {gd : Option (Nat × Bool)} {T : TypeId} {x : Operand} {f : Nat} {te fe : TE} {fs : List (Nat × TypeId)} {o : Nat} {ft : TypeId} {k : Nat} {τ : Stamp} {s i p : Nat} (hT : E.tab T = some te) (hk : te.k = .st fs) (hf : fs[f]? = some (o, ft)) (hF : E.tab ft = some fe) (hz : fe.size ≠ 0) (hx : EvM tm x (.lo k τ s i p)) : YL E.P v j ⟨dst, .fieldAddr T x f, ty, pos, af, gd⟩ tm σ [] (.lo k τ s i (p + o)) [] := (Y_fieldAddr_lo hT hk hf hF hz hx.st).strip
theorem S_indexAddr_sl {dst : Option Tmp} {T : TypeId} {x ix : Operand} {te ee : TE} {e : TypeId} {k : IntKind} {i : Int} {s : Nat} {rows : List (List TV)} {row : List TV} (hT : E.tab T = some te) (hk : te.k = .slice e) (hE : E.tab e = some ee) (hs : ee.size = s) (hx : ev tm x = some (.d (.sl s rows))) (hi : ev tm ix = some (.int k i)) (h0 : 0 ≤ i) (hr : rows[i.toNat]? = some row) (hcont : AO E.P v ops K (j + 1) rest (tm.putO dst (.d (.pt row 0))) (σ.apply [])) : AO E.P v ops K j (⟨dst, .indexAddr T x ix, ty, pos, af, none⟩ :: rest) tm σ := ao_step (Y_indexAddr_sl hT hk hE hs hx hi h0 hr) hcont
theorem D_indexAddr_sl {dst : Option Tmp} {T : TypeId} {x ix : Operand} {te ee : TE} {e : TypeId} {k : IntKind} {i : Int} {s : Nat} {rows : List (List TV)} {row : List TV} (hT : E.tab T = some te) (hk : te.k = .slice e) (hE : E.tab e = some ee) (hs : ee.size = s) (hx : ev tm x = some (.d (.sl s rows))) (hi : ev tm ix = some (.int k i)) (h0 : 0 ≤ i) (hr : rows[i.toNat]? = some row) (hcont : DO E.P v ops KD (j + 1) rest (tm.putO dst (.d (.pt row 0))) (σ.apply []) (Foot.mk [] (wkeys []) :: acc)) : DO E.P v ops KD j (⟨dst, .indexAddr T x ix, ty, pos, af, none⟩ :: rest) tm σ acc := do_step (Y_indexAddr_sl hT hk hE hs hx hi h0 hr) hcont
theorem M_indexAddr_sl {dst : Option Tmp} {gd : Option (Nat × Bool)} {T : TypeId} {x ix : Operand} {te ee : TE} {e : TypeId} {k : IntKind} {i : Int} {s : Nat} {rows : List (List TV)} {row : List TV} (hT : E.tab T = some te) (hk : te.k = .slice e) (hE : E.tab e = some ee) (hs : ee.size = s) (hx : EvM tm x (.d (.sl s rows))) (hi : EvM tm ix (.int k i)) (h0 : 0 ≤ i) (hr : rows[i.toNat]? = some row) : YL E.P v j ⟨dst, .indexAddr T x ix, ty, pos, af, gd⟩ tm σ [] (.d (.pt row 0)) [] := (Y_indexAddr_sl hT hk hE hs hx.st hi.st h0 hr).strip
theorem M_indexAddr_os {dst : Option Tmp} {gd : Option (Nat × Bool)} {T : TypeId} {x ix : Operand} {te ee : TE} {e : TypeId} {k : IntKind} {i : Int} {q s n : Nat} {τ : Stamp} (hT : E.tab T = some te) (hk : te.k = .slice e) (hE : E.tab e = some ee) (hs : ee.size = s) (hx : EvM tm x (.os q τ s n)) (hi : EvM tm ix (.int k i)) (hin : 0 ≤ i ∧ i < n) : YL E.P v j ⟨dst, .indexAddr T x ix, ty, pos, af, gd⟩ tm σ [] (.lo q τ s i.toNat 0) [] := (Y_indexAddr_os hT hk hE hs hx.st hi.st hin).strip
theorem S_load_pt {dst : Option Tmp} {T : TypeId} {x : Operand} {te : TE} {row : List TV} {p : Nat} {t : TV} (hT : E.tab T = some te) (ha : te.k.isAgg = false) (hx : ev tm x = some (.d (.pt row p))) (ht : row[p]? = some t) (hcont : AO E.P v ops K (j + 1) rest (tm.putO dst (.d t)) (σ.apply [])) : AO E.P v ops K j (⟨dst, .load T x, ty, pos, af, none⟩ :: rest) tm σ := ao_step (Y_load_pt hT ha hx ht) hcont
theorem D_load_pt {dst : Option Tmp} {T : TypeId} {x : Operand} {te : TE} {row : List TV} {p : Nat} {t : TV} (hT : E.tab T = some te) (ha : te.k.isAgg = false) (hx : ev tm x = some (.d (.pt row p))) (ht : row[p]? = some t) (hcont : DO E.P v ops KD (j + 1) rest (tm.putO dst (.d t)) (σ.apply []) (Foot.mk [] (wkeys []) :: acc)) : DO E.P v ops KD j (⟨dst, .load T x, ty, pos, af, none⟩ :: rest) tm σ acc := do_step (Y_load_pt hT ha hx ht) hcont
theorem M_load_pt {dst : Option Tmp} {gd : Option (Nat × Bool)} {T : TypeId} {x : Operand} {te : TE} {row : List TV} {p : Nat} {t : TV} (hT : E.tab T = some te) (ha : te.k.isAgg = false) (hx : EvM tm x (.d (.pt row p))) (ht : row[p]? = some t) : YL E.P v j ⟨dst, .load T x, ty, pos, af, gd⟩ tm σ [] (.d t) [] := (Y_load_pt hT ha hx.st ht).strip
theorem S_load_ptA {dst : Option Tmp} {T : TypeId} {x : Operand} {te : TE} {row : List TV} {p : Nat} (hT : E.tab T = some te) (ha : te.k.isAgg = true) (hx : ev tm x = some (.d (.pt row p))) (hl : p + te.size ≤ row.length) (hcont : AO E.P v ops K (j + 1) rest (tm.putO dst (.ag (((row.drop p).take te.size).map .d))) (σ.apply [])) : AO E.P v ops K j (⟨dst, .load T x, ty, pos, af, none⟩ :: rest) tm σ := ao_step (Y_load_ptA hT ha hx hl) hcont
theorem D_load_ptA {dst : Option Tmp} {T : TypeId} {x : Operand} {te : TE} {row : List TV} {p : Nat} (hT : E.tab T = some te) (ha : te.k.isAgg = true) (hx : ev tm x = some (.d (.pt row p))) (hl : p + te.size ≤ row.length) (hcont : DO E.P v ops KD (j + 1) rest (tm.putO dst (.ag (((row.drop p).take te.size).map .d))) (σ.apply []) (Foot.mk [] (wkeys []) :: acc)) : DO E.P v ops KD j (⟨dst, .load T x, ty, pos, af, none⟩ :: rest) tm σ acc := do_step (Y_load_ptA hT ha hx hl) hcont
theorem M_load_ptA {dst : Option Tmp} {gd : Option (Nat × Bool)} {T : TypeId} {x : Operand} {te : TE} {row : List TV} {p : Nat} (hT : E.tab T = some te) (ha : te.k.isAgg = true) (hx : EvM tm x (.d (.pt row p))) (hl : p + te.size ≤ row.length) : YL E.P v j ⟨dst, .load T x, ty, pos, af, gd⟩ tm σ [] (.ag (((row.drop p).take te.size).map .d)) [] := (Y_load_ptA hT ha hx.st hl).strip
theorem S_load_lo {dst : Option Tmp} {T : TypeId} {x : Operand} {te : TE} {k : Nat} {τ : Stamp} {s i p : Nat} {rows : List (List OV)} {row : List OV} {y : OV} (hT : E.tab T = some te) (ha : te.k.isAgg = false) (hx : ev tm x = some (.lo k τ s i p)) (hs : σ k = some (τ, ⟨s, rows⟩)) (hr : rows[i]? = some row) (hy : row[p]? = some y) (hcont : AO E.P v ops K (j + 1) rest (tm.putO dst y) (σ.apply [])) : AO E.P v ops K j (⟨dst, .load T x, ty, pos, af, none⟩ :: rest) tm σ := ao_step (Y_load_lo hT ha hx hs hr hy) hcont
theorem D_load_lo {dst : Option Tmp} {T : TypeId} {x : Operand} {te : TE} {k : Nat} {τ : Stamp} {s i p : Nat} {rows : List (List OV)} {row : List OV} {y : OV} (hT : E.tab T = some te) (ha : te.k.isAgg = false) (hx : ev tm x = some (.lo k τ s i p)) (hs : σ k = some (τ, ⟨s, rows⟩)) (hr : rows[i]? = some row) (hy : row[p]? = some y) (hcont : DO E.P v ops KD (j + 1) rest (tm.putO dst y) (σ.apply []) (Foot.mk [k] (wkeys []) :: acc)) : DO E.P v ops KD j (⟨dst, .load T x, ty, pos, af, none⟩ :: rest) tm σ acc := do_step (Y_load_lo hT ha hx hs hr hy) hcont
theorem M_load_lo {dst : Option Tmp} {gd : Option (Nat × Bool)} {T : TypeId} {x : Operand} {te : TE} {k : Nat} {τ : Stamp} {s i p : Nat} {rows : List (List OV)} {row : List OV} {y : OV} (hT : E.tab T = some te) (ha : te.k.isAgg = false) (hx : EvM tm x (.lo k τ s i p)) (hs : σ k = some (τ, ⟨s, rows⟩)) (hr : rows[i]? = some row) (hy : row[p]? = some y) : YL E.P v j ⟨dst, .load T x, ty, pos, af, gd⟩ tm σ [k] y [] := (Y_load_lo hT ha hx.st hs hr hy).strip
theorem S_load_loA {dst : Option Tmp} {T : TypeId} {x : Operand} {te : TE} {k : Nat} {τ : Stamp} {s i p : Nat} {rows : List (List OV)} {row : List OV} (hT : E.tab T = some te) (ha : te.k.isAgg = true) (hx : ev tm x = some (.lo k τ s i p)) (hs : σ k = some (τ, ⟨s, rows⟩)) (hr : rows[i]? = some row) (hl : p + te.size ≤ row.length) (hcont : AO E.P v ops K (j + 1) rest (tm.putO dst (.ag ((row.drop p).take te.size))) (σ.apply [])) : AO E.P v ops K j (⟨dst, .load T x, ty, pos, af, none⟩ :: rest) tm σ := ao_step (Y_load_loA hT ha hx hs hr hl) hcont
theorem M_load_loA {dst : Option Tmp} {gd : Option (Nat × Bool)} {T : TypeId} {x : Operand} {te : TE} {k : Nat} {τ : Stamp} {s i p : Nat} {rows : List (List OV)} {row : List OV} (hT : E.tab T = some te) (ha : te.k.isAgg = true) (hx : EvM tm x (.lo k τ s i p)) (hs : σ k = some (τ, ⟨s, rows⟩)) (hr : rows[i]? = some row) (hl : p + te.size ≤ row.length) : YL E.P v j ⟨dst, .load T x, ty, pos, af, gd⟩ tm σ [k] (.ag ((row.drop p).take te.size)) [] := (Y_load_loA hT ha hx.st hs hr hl).strip
theorem S_alloc {d : Nat} {T : TypeId} {te : TE} (hT : E.tab T = some te) (hcont : AO E.P v ops K (j + 1) rest (tm.putO (some d) (.lo d (v, j) te.size 0 0)) (σ.apply [(d, some ((v, j), ⟨te.size, [consts te.zero]⟩))])) : AO E.P v ops K j (⟨some d, .alloc T, ty, pos, af, none⟩ :: rest) tm σ := ao_step (Y_alloc hT) hcont
theorem D_alloc {d : Nat} {T : TypeId} {te : TE} (hT : E.tab T = some te) (hcont : DO E.P v ops KD (j + 1) rest (tm.putO (some d) (.lo d (v, j) te.size 0 0)) (σ.apply [(d, some ((v, j), ⟨te.size, [consts te.zero]⟩))]) (Foot.mk [] (wkeys [(d, some ((v, j), ⟨te.size, [consts te.zero]⟩))]) :: acc)) : DO E.P v ops KD j (⟨some d, .alloc T, ty, pos, af, none⟩ :: rest) tm σ acc := do_step (Y_alloc hT) hcont
theorem S_box {d : Nat} {T : TypeId} {x : Operand} {y : OV} {n : Nat} (hx : ev tm x = some y) (hw' : y.wide = true) (hn : y.cells.length = n) (hcont : AO E.P v ops K (j + 1) rest (tm.putO (some d) (.lo d (v, j) n 0 0)) (σ.apply [(d, some ((v, j), ⟨n, [y.cells]⟩))])) : AO E.P v ops K j (⟨some d, .box T x, ty, pos, af, none⟩ :: rest) tm σ := ao_step (Y_box hx hw' hn) hcont
theorem S_build {d : Option Nat} {T : TypeId} {parts : List (Nat × Operand)} {te : TE} {fs : List (Nat × TypeId)} {ys : List (Nat × OV)} {cs : List OV} (hT : E.tab T = some te) (hk : te.k = .st fs) (hfs : (fs.all fun f => (E.tab f.2).isSome) = true) (hp : evParts tm parts = some ys) (hc : fillO (fun i => (fs[i]?).map fun f : Nat × TypeId => (f.1, sizeT E f.2)) (consts te.zero) ys = some cs) (hcont : AO E.P v ops K (j + 1) rest (tm.putO d (.ag cs)) (σ.apply [])) : AO E.P v ops K j (⟨d, .build T parts.toArray, ty, pos, af, none⟩ :: rest) tm σ := ao_step (Y_build hT hk hfs hp hc) hcont
theorem D_build {d : Option Nat} {T : TypeId} {parts : List (Nat × Operand)} {te : TE} {fs : List (Nat × TypeId)} {ys : List (Nat × OV)} {cs : List OV} (hT : E.tab T = some te) (hk : te.k = .st fs) (hfs : (fs.all fun f => (E.tab f.2).isSome) = true) (hp : evParts tm parts = some ys) (hc : fillO (fun i => (fs[i]?).map fun f : Nat × TypeId => (f.1, sizeT E f.2)) (consts te.zero) ys = some cs) (hcont : DO E.P v ops KD (j + 1) rest (tm.putO d (.ag cs)) (σ.apply []) (Foot.mk [] (wkeys []) :: acc)) : DO E.P v ops KD j (⟨d, .build T parts.toArray, ty, pos, af, none⟩ :: rest) tm σ acc := do_step (Y_build hT hk hfs hp hc) hcont
theorem S_buildSlice {d : Nat} {T : TypeId} {n : Nat} {parts : List (Nat × Operand)} {te ee : TE} {e : TypeId} {ys : List (Nat × OV)} {cs : List OV} (hT : E.tab T = some te) (hk : te.k = .slice e) (hE : E.tab e = some ee) (hpos : 0 < ee.size) (hn : n * ee.size ≤ 16777216) (hn' : n ≤ maxLen) (hp : evParts tm parts = some ys) (hc : fillO (fun i => some (i * ee.size, ee.size)) ((List.replicate n (consts ee.zero)).flatten) ys = some cs) (hcont : AO E.P v ops K (j + 1) rest (tm.putO (some d) (.os d (v, j) ee.size n)) (σ.apply [(d, some ((v, j), ⟨ee.size, chop ee.size n cs⟩))])) : AO E.P v ops K j (⟨some d, .buildSlice T n parts.toArray, ty, pos, af, none⟩ :: rest) tm σ := ao_step (Y_buildSlice hT hk hE hpos hn hn' hp hc) hcont
theorem S_store {d : Option Nat} {T : TypeId} {x z : Operand} {te : TE} {k : Nat} {τ : Stamp} {s i p : Nat} {rows : List (List OV)} {row : List OV} {y : OV} (hT : E.tab T = some te) (hx : ev tm x = some (.lo k τ s i p)) (hz : ev tm z = some y) (hw' : y.wide = true) (hn : y.cells.length = te.size) (hs : σ k = some (τ, ⟨s, rows⟩)) (hr : rows[i]? = some row) (hp : p + te.size ≤ row.length) (hcont : AO E.P v ops K (j + 1) rest (tm.putO d .un) (σ.apply [(k, some (τ, ⟨s, rows.set i (setAt row p y.cells)⟩))])) : AO E.P v ops K j (⟨d, .store T x z, ty, pos, af, none⟩ :: rest) tm σ := ao_step (Y_store hT hx hz hw' hn hs hr hp) hcont
theorem D_store {d : Option Nat} {T : TypeId} {x z : Operand} {te : TE} {k : Nat} {τ : Stamp} {s i p : Nat} {rows : List (List OV)} {row : List OV} {y : OV} (hT : E.tab T = some te) (hx : ev tm x = some (.lo k τ s i p)) (hz : ev tm z = some y) (hw' : y.wide = true) (hn : y.cells.length = te.size) (hs : σ k = some (τ, ⟨s, rows⟩)) (hr : rows[i]? = some row) (hp : p + te.size ≤ row.length) (hcont : DO E.P v ops KD (j + 1) rest (tm.putO d .un) (σ.apply [(k, some (τ, ⟨s, rows.set i (setAt row p y.cells)⟩))]) (Foot.mk [k] (wkeys [(k, some (τ, ⟨s, rows.set i (setAt row p y.cells)⟩))]) :: acc)) : DO E.P v ops KD j (⟨d, .store T x z, ty, pos, af, none⟩ :: rest) tm σ acc := do_step (Y_store hT hx hz hw' hn hs hr hp) hcont
theorem S_slice_sl {d : Option Nat} {T e : TypeId} {te ee : TE} {x : Operand} {lo hi : Option Operand} {s l h : Nat} {rows : List (List TV)} (hT : E.tab T = some te) (hk : te.k = .slice e) (hE : E.tab e = some ee) (hs : ee.size = s) (hx : ev tm x = some (.d (.sl s rows))) (hlo : Bnd tm lo 0 l) (hhi : Bnd tm hi rows.length h) (h1 : l ≤ h) (h2 : h ≤ rows.length) (hcont : AO E.P v ops K (j + 1) rest (tm.putO d (.d (.sl s ((rows.drop l).take (h - l))))) (σ.apply [])) : AO E.P v ops K j (⟨d, .slice T x lo hi none, ty, pos, af, none⟩ :: rest) tm σ := ao_step (Y_slice_sl hT hk hE hs hx hlo hhi h1 h2) hcont
theorem S_slice_os {d : Option Nat} {T e : TypeId} {te ee : TE} {x : Operand} {lo hi : Option Operand} {k s n l h : Nat} {τ : Stamp} (hT : E.tab T = some te) (hk : te.k = .slice e) (hE : E.tab e = some ee) (hs : ee.size = s) (hx : ev tm x = some (.os k τ s n)) (hlo : Bnd tm lo 0 l) (hhi : Bnd tm hi n h) (h1 : l ≤ h) (h2 : h ≤ n) (hcont : AO E.P v ops K (j + 1) rest (tm.putO d (.vw k τ s l (h - l))) (σ.apply [])) : AO E.P v ops K j (⟨d, .slice T x lo hi none, ty, pos, af, none⟩ :: rest) tm σ := ao_step (Y_slice_os hT hk hE hs hx hlo hhi h1 h2) hcont
theorem S_len {d : Option Nat} {T e : TypeId} {te : TE} {x : Operand} {y : OV} {n : Nat} (hT : E.tab T = some te) (hk : te.k = .slice e) (hx : ev tm x = some y) (hn : ∀ (G : Gh) (u : Value), RepO G y u → ∃ a c, u = .slice a n c) (hcont : AO E.P v ops K (j + 1) rest (tm.putO d (.int .i64 n)) (σ.apply [])) : AO E.P v ops K j (⟨d, .call { callee := .builtin .len, args := #[x], argTypes := #[T] }, ty, pos, af, none⟩ :: rest) tm σ := ao_step (Y_len hT hk hx hn) hcont
theorem D_len {d : Option Nat} {T e : TypeId} {te : TE} {x : Operand} {y : OV} {n : Nat} (hT : E.tab T = some te) (hk : te.k = .slice e) (hx : ev tm x = some y) (hn : ∀ (G : Gh) (u : Value), RepO G y u → ∃ a c, u = .slice a n c) (hcont : DO E.P v ops KD (j + 1) rest (tm.putO d (.int .i64 n)) (σ.apply []) (Foot.mk [] (wkeys []) :: acc)) : DO E.P v ops KD j (⟨d, .call { callee := .builtin .len, args := #[x], argTypes := #[T] }, ty, pos, af, none⟩ :: rest) tm σ acc := do_step (Y_len hT hk hx hn) hcont
theorem M_len {gd : Option (Nat × Bool)} {d : Option Nat} {T e : TypeId} {te : TE} {x : Operand} {y : OV} {n : Nat} (hT : E.tab T = some te) (hk : te.k = .slice e) (hx : EvM tm x y) (hn : ∀ (G : Gh) (u : Value), RepO G y u → ∃ a c, u = .slice a n c) : YL E.P v j ⟨d, .call { callee := .builtin .len, args := #[x], argTypes := #[T] }, ty, pos, af, gd⟩ tm σ [] (.int .i64 n) [] := (Y_len hT hk hx.st hn).strip
theorem M_min {gd : Option (Nat × Bool)} {d : Option Nat} {T T' : TypeId} {x y : Operand} {k : IntKind} {a b : Int} (hx : EvM tm x (.int k a)) (hy : EvM tm y (.int k b)) : YL E.P v j ⟨d, .call { callee := .builtin .min, args := #[x, y], argTypes := #[T, T'] }, ty, pos, af, gd⟩ tm σ [] (.int k (if b < a then b else a)) [] := (Y_min hx.st hy.st).strip
theorem S_makeFunc {d : Option Nat} {f : FuncId} {fi ca : List Operand} {fs cs : List OV} (h1 : evs tm fi = some fs) (h2 : evs tm ca = some cs) (hcont : AO E.P v ops K (j + 1) rest (tm.putO d (.fn f fs cs)) (σ.apply [])) : AO E.P v ops K j (⟨d, .makeFunc (.func f) fi.toArray ca.toArray, ty, pos, af, none⟩ :: rest) tm σ := ao_step (Y_makeFunc h1 h2) hcont
theorem S_append {d : Nat} {T e : TypeId} {te ee : TE} {x z : Operand} {s k : Nat} {y1 y2 : OV} {ks1 ks2 : List Nat} {rows1 rows2 : List (List OV)} (hT : E.tab T = some te) (hk : te.k = .slice e) (hE : E.tab e = some ee) (hs : ee.size = s) (hpos : 0 < s) (hx : ev tm x = some y1) (hz : ev tm z = some y2) (h1 : Dst σ s d y1 ks1 k rows1) (h2 : Src σ s y2 ks2 rows2) (hlf : ∀ r ∈ rows2, ∀ y ∈ r, y.leaf = true) (hb : (rows1.length + rows2.length) * ee.bytes ≤ 140737488355328) (hm : rows1.length + rows2.length ≤ maxLen) (hcont : AO E.P v ops K (j + 1) rest (tm.putO (some d) (.os k (v, j) s (rows1.length + rows2.length))) (σ.apply [(k, some ((v, j), ⟨s, rows1 ++ rows2⟩))])) : AO E.P v ops K j (⟨some d, .call { callee := .builtin .append, args := #[x, z], argTypes := #[T, T] }, ty, pos, af, none⟩ :: rest) tm σ := ao_step (Y_append hT hk hE hs hpos hx hz h1 h2 hlf hb hm) hcont
theorem S_call {dst : Option Tmp} {x : Operand} {xs : List Operand} {tys : Array TypeId} {y : OV} {f : FuncId} {fi ca ys : List OV} {r : OV} (hx : ev tm x = some y) (hf : IsFn y f fi ca) (ha : evs tm xs = some ys) (hc : Pure E.P f (fi ++ ys ++ ca) r) (hcont : AO E.P v ops K (j + 1) rest (tm.putO dst r) (σ.apply [])) : AO E.P v ops K j (⟨dst, .call { callee := .value x, args := xs.toArray, argTypes := tys }, ty, pos, af, none⟩ :: rest) tm σ := ao_step (Y_call hx hf ha hc) hcont
theorem D_call {dst : Option Tmp} {x : Operand} {xs : List Operand} {tys : Array TypeId} {y : OV} {f : FuncId} {fi ca ys : List OV} {r : OV} (hx : ev tm x = some y) (hf : IsFn y f fi ca) (ha : evs tm xs = some ys) (hc : Pure E.P f (fi ++ ys ++ ca) r) (hcont : DO E.P v ops KD (j + 1) rest (tm.putO dst r) (σ.apply []) (Foot.mk [] (wkeys []) :: acc)) : DO E.P v ops KD j (⟨dst, .call { callee := .value x, args := xs.toArray, argTypes := tys }, ty, pos, af, none⟩ :: rest) tm σ acc := do_step (Y_call hx hf ha hc) hcont
theorem M_call {dst : Option Tmp} {gd : Option (Nat × Bool)} {x : Operand} {xs : List Operand} {tys : Array TypeId} {y : OV} {f : FuncId} {fi ca ys : List OV} {r : OV} (hx : EvM tm x y) (hf : IsFn y f fi ca) (ha : EvsM tm xs ys) (hc : Pure E.P f (fi ++ ys ++ ca) r) : YL E.P v j ⟨dst, .call { callee := .value x, args := xs.toArray, argTypes := tys }, ty, pos, af, gd⟩ tm σ [] r [] := (Y_call hx.st hf ha.st hc).strip
theorem S_own {d : Nat} {x : Operand} {xs : List Operand} {tys : Array TypeId} {y : OV} {f : FuncId} {fi ca ys : List OV} {s : Nat} {rows : List (List OV)} (hx : ev tm x = some y) (hf : IsFn y f fi ca) (ha : evs tm xs = some ys) (hc : Own E.P f (fi ++ ys ++ ca) s rows) (hcont : AO E.P v ops K (j + 1) rest (tm.putO (some d) (.os d (v, j) s rows.length)) (σ.apply [(d, some ((v, j), ⟨s, rows⟩))])) : AO E.P v ops K j (⟨some d, .call { callee := .value x, args := xs.toArray, argTypes := tys }, ty, pos, af, none⟩ :: rest) tm σ := ao_step (Y_own hx hf ha hc) hcont
theorem D_own {d : Nat} {x : Operand} {xs : List Operand} {tys : Array TypeId} {y : OV} {f : FuncId} {fi ca ys : List OV} {s : Nat} {rows : List (List OV)} (hx : ev tm x = some y) (hf : IsFn y f fi ca) (ha : evs tm xs = some ys) (hc : Own E.P f (fi ++ ys ++ ca) s rows) (hcont : DO E.P v ops KD (j + 1) rest (tm.putO (some d) (.os d (v, j) s rows.length)) (σ.apply [(d, some ((v, j), ⟨s, rows⟩))]) (Foot.mk [] (wkeys [(d, some ((v, j), ⟨s, rows⟩))]) :: acc)) : DO E.P v ops KD j (⟨some d, .call { callee := .value x, args := xs.toArray, argTypes := tys }, ty, pos, af, none⟩ :: rest) tm σ acc := do_step (Y_own hx hf ha hc) hcont
end
end Go.Proofs.YtgeaaegkcbjhlaaGreat
/- Rows of a call's own: which may be appended, and how a loop's frame is told of them. -/
set_option linter.unusedVariables false
namespace Go.Proofs.YtgeaaegkcbjhlaaGreat
open Go.RowKit
/-- a goal that a walk leaves -/
structure Stuck (p : Prop) : Prop where
  out : p
def LeafR (rows : List (List OV)) : Prop := ∀ r ∈ rows, ∀ y ∈ r, y.leaf = true
theorem LeafR.d (rows : List (List TV)) : LeafR (rows.map fun r => r.map .d) := fun r hr y hy => by
  obtain ⟨r', _, rfl⟩ := List.mem_map.1 hr
  obtain ⟨t, _, rfl⟩ := List.mem_map.1 hy
  rfl
theorem LeafR.take {rows : List (List OV)} (n : Nat) (h : LeafR rows) : LeafR (rows.take n) := fun r hr => h r (List.mem_of_mem_take hr)
theorem LeafR.drop {rows : List (List OV)} (n : Nat) (h : LeafR rows) : LeafR (rows.drop n) := fun r hr => h r (List.mem_of_mem_drop hr)
theorem LeafR.app {a b : List (List OV)} (h : LeafR a) (h' : LeafR b) : LeafR (a ++ b) := fun r hr => by
  rcases List.mem_append.1 hr with hr | hr
  · exact h r hr
  · exact h' r hr
theorem LeafR.lit {rows : List (List OV)} (h : rows.all (fun r => r.all OV.leaf) = true) : LeafR rows := fun r hr y hy => List.all_eq_true.1 (List.all_eq_true.1 h r hr) y hy
theorem LeafR.nil : LeafR [] := fun r hr => by cases hr
theorem LeafR.one {y : OV} (h : y.leaf = true) : LeafR [[y]] := fun r hr z hz => by
  simp only [List.mem_singleton] at hr; subst hr
  simp only [List.mem_singleton] at hz; subst hz
  exact h
theorem LeafR.map {α : Type} {f : α → List OV} (l : List α) (h : ∀ a, ∀ y ∈ f a, y.leaf = true) : LeafR (l.map f) := fun r hr => by
  obtain ⟨a, _, rfl⟩ := List.mem_map.1 hr
  exact h a
/-- a number as a cell of one's own -/
def cellO (k : IntKind) (a : Int) : List OV := [.int k a]
theorem LeafR.cells (k : IntKind) (l : List Int) : LeafR (l.map (cellO k)) := LeafR.map l fun a y hy => by
  simp only [cellO, List.mem_singleton] at hy; subst hy; rfl
theorem le_cons_os {d k s n m : Nat} {τ : Stamp} {l : List (Nat × OV)} {tm : Tm} (h : tm d = some (.os k τ s m)) (e : m = n) (hl : (tmL l).le tm) : (tmL ((d, .os k τ s n) :: l)).le tm := le_cons (by rw [h, e]) hl
theorem le_cons_int {d : Nat} {k : IntKind} {a b : Int} {l : List (Nat × OV)} {tm : Tm} (h : tm d = some (.int k a)) (e : a = b) (hl : (tmL l).le tm) : (tmL ((d, .int k b) :: l)).le tm := le_cons (by rw [h, e]) hl
theorem sle_cons' {d s : Nat} {τ : Stamp} {rows rows' : List (List OV)} {l : List (Nat × (Stamp × Row))} {σ : Store} (h : σ d = some (τ, ⟨s, rows⟩)) (e : rows = rows') (hl : (stL l).le σ) : (stL ((d, (τ, ⟨s, rows'⟩)) :: l)).le σ := sle_cons (by rw [h, e]) hl
theorem own_done {t d s : Nat} {τ : Stamp} {n : Nat} {rows rows' : List (List OV)} {tm : Tm} {σ : Store} (h : tm t = some (.os d τ s n)) (hs : σ d = some (τ, ⟨s, rows⟩)) (e : rows = rows') (hn : n = rows.length) : Done t (IsOwn s rows') .ret tm σ := by
  subst e; subst hn
  exact done_r h ⟨d, τ, rfl, hs⟩
theorem round' {X : Type} {T : X → Tm} {S : X → Store} {I : X → Prop} {μ : X → Nat} {m : Nat} {tm : Tm} {σ : Store} (y : X) (hI : I y) (hμ : μ y < m) (ht : (T y).le tm) (hs : (S y).le σ) : ∃ y, I y ∧ μ y < m ∧ (T y).le tm ∧ (S y).le σ := ⟨y, hI, hμ, ht, hs⟩
theorem WRel.del {Γ : Ctx} {G : Gh} {σ : Store} {w : World} (h : WRel Γ G σ w) (k : Nat) : WRel Γ G (σ.del k) w := h.forget fun j y hj => by
  unfold Store.del at hj
  cases hb : Nat.beq j k with
  | true => rw [hb] at hj; cases hj
  | false => rw [hb] at hj; exact hj
/-- Rows of one's own get another name. -/
theorem WRel.rename {Γ : Ctx} {G : Gh} {σ : Store} {w : World} (h : WRel Γ G σ w) {k d v j : Nat} {τ : Stamp} {r : Row} (hk : σ k = some (τ, r)) (hv : Γ.N ≤ v) (hf : G.μ d (v, j) = none) :
    ∃ β, G.μ k τ = some β ∧ WRel Γ (G.name d (v, j) β) ((σ.del k).put d ((v, j), r)) w := by
  rcases h.own k τ r hk with ⟨h1, h2⟩ | ⟨β, h1, h2, h3, h4⟩
  · refine ⟨none, h1, ?_⟩
    obtain ⟨s, rows⟩ := r
    simp only at h2
    subst h2
    exact (h.del k).phantom d hv hf s
  · refine ⟨some β, h1, (h.del k).named hv hf (Nat.le_refl _) rfl rfl rfl (fun _ _ _ => rfl) h2 h3 h4 ?_⟩
    intro k' τ' r' β' hne hk' hμ' e
    have hkk : k' ≠ k := fun e' => by subst e'; simp [Store.del] at hk'
    have hk2 : σ k' = some (τ', r') := by
      unfold Store.del at hk'
      cases hb : Nat.beq k' k with
      | true => exact (hkk (Nat.eq_of_beq_eq_true hb)).elim
      | false => rw [hb] at hk'; exact hk'
    exact hkk (h.inj k' k τ' τ β' β r' r hk2 hk hμ' h1 e)
section
variable {E : Env} {v j : Nat} {ops : Array Oper} {K : Tm → Store → Prop} {KD : List Foot → Tm → Store → Prop} {acc : List Foot} {rest : List Oper} {tm : Tm} {σ : Store} {ty : TypeId} {pos : String} {af : Array Edge} {gd : Option (Nat × Bool)}
/-- nil is a slice of one's own of no rows -/
theorem Y_nilA {d : Nat} {e : TypeId} {te ee : TE} {s : Nat} (hT : E.tab ty = some te) (hk : te.k = .slice e) (hE : E.tab e = some ee) (hs : ee.size = s) :
    YL E.P v j ⟨some d, .assign (.const (.slice none 0 0)), ty, pos, af, gd⟩ tm σ [] (.os d (v, j) s 0) [(d, some ((v, j), ⟨s, []⟩))] := fun σ _ Γ G ρ w hv hfr hρ hw => by
  have hr := hρ (.const (.slice none 0 0)) (by simp [Op.operands]) (.d (.c (.slice none 0 0))) (by rfl)
  have h1 := rep_c hr
  have h2 : (execOp ρ ⟨some d, .assign (.const (.slice none 0 0)), ty, pos, af, gd⟩).run E.P w = .ok (.value (.slice none 0 0)) w := by
    simp [execOp, h1]
  rw [h2]
  refine ⟨_, Gh.name_le G none (hfr d), ?_, ?_, hw.phantom d hv (hfr d) s⟩
  · intro k' v' i hv' hi
    exact name_keeps G d v j _ k' v' i hv' hi
  · rw [RepO]
    exact Or.inr ⟨Gh.name_self _ _ _ _, rfl, rfl⟩
theorem S_nilA {d : Nat} {e : TypeId} {te ee : TE} {s : Nat} (hT : E.tab ty = some te) (hk : te.k = .slice e) (hE : E.tab e = some ee) (hs : ee.size = s)
    (hcont : AO E.P v ops K (j + 1) rest (tm.putO (some d) (.os d (v, j) s 0)) (σ.apply [(d, some ((v, j), ⟨s, []⟩))])) : AO E.P v ops K j (⟨some d, .assign (.const (.slice none 0 0)), ty, pos, af, none⟩ :: rest) tm σ := ao_step (Y_nilA hT hk hE hs) hcont
theorem Y_ren {d k n s : Nat} {τ : Stamp} {x : Operand} {rows : List (List OV)} (hx : ev tm x = some (.os k τ s n)) (hs : σ k = some (τ, ⟨s, rows⟩)) :
    YL E.P v j ⟨some d, .assign x, ty, pos, af, gd⟩ tm σ [k] (.os d (v, j) s n) [(k, none), (d, some ((v, j), ⟨s, rows⟩))] := fun σ' hσ Γ G ρ w hv hfr hρ hw => by
  have hs' : σ' k = some (τ, ⟨s, rows⟩) := by rw [hσ k (by simp)]; exact hs
  have hr := hρ x (by simp [Op.operands]) _ hx
  have h2 : (execOp ρ ⟨some d, .assign x, ty, pos, af, gd⟩).run E.P w = .ok (.value (ρ x)) w := by
    simp [execOp]
  rw [h2]
  obtain ⟨β, h1, h3⟩ := hw.rename hs' hv (hfr d)
  refine ⟨_, Gh.name_le G β (hfr d), ?_, ?_, h3⟩
  · intro k' v' i hv' hi
    exact name_keeps G d v j _ k' v' i hv' hi
  · rw [RepO] at hr ⊢
    rcases hr with ⟨β', c, g1, g2, g3, g4, g5⟩ | ⟨g1, g2, g3⟩
    · rw [h1] at g1; cases g1
      exact Or.inl ⟨β', c, Gh.name_self _ _ _ _, g2, g3, g4, g5⟩
    · rw [h1] at g1; cases g1
      exact Or.inr ⟨Gh.name_self _ _ _ _, g2, g3⟩
theorem S_ren {d k n s : Nat} {τ : Stamp} {x : Operand} {rows : List (List OV)} (hx : ev tm x = some (.os k τ s n)) (hs : σ k = some (τ, ⟨s, rows⟩))
    (hcont : AO E.P v ops K (j + 1) rest (tm.putO (some d) (.os d (v, j) s n)) (σ.apply [(k, none), (d, some ((v, j), ⟨s, rows⟩))])) : AO E.P v ops K j (⟨some d, .assign x, ty, pos, af, none⟩ :: rest) tm σ := ao_step (Y_ren hx hs) hcont
end
end Go.Proofs.YtgeaaegkcbjhlaaGreat
/- Steps of a walk under short names, their side conditions as default arguments (printed by program). -/
set_option linter.unusedVariables false
namespace Go.Proofs.YtgeaaegkcbjhlaaGreat
open Go.RowKit
section
variable {E : Env} {v j : Nat} {ops : Array Oper} {K : Tm → Store → Prop} {KD : List Foot → Tm → Store → Prop} {acc : List Foot} {rest : List Oper} {tm : Tm} {σ : Store} {ty : TypeId} {pos : String} {af : Array Edge} {gd : Option (Nat × Bool)} {dst : Option Tmp}
theorem q1 {dst : Option Tmp} {gd : Option (Nat × Bool)} {x : Operand} {y : OV}  (h : EvM tm x y := by (first | (refine EvM.mb _ rfl ?_; first | assumption | exact rfl) | exact EvM.plain rfl rfl)) : YL E.P v j ⟨dst, .move x, ty, pos, af, gd⟩ tm σ [] y [] := M_move h
theorem q2 {dst : Option Tmp} {gd : Option (Nat × Bool)} {T : TypeId} {x : Operand} {f : Nat} {te fe : TE} {fs : List (Nat × TypeId)} {o : Nat} {ft : TypeId} {k : Nat} {τ : Stamp} {s i p : Nat}  (hT : E.tab T = some te := by exact rfl) (hk : te.k = .st fs := by exact rfl) (hf : fs[f]? = some (o, ft) := by exact rfl) (hF : E.tab ft = some fe := by exact rfl) (hz : fe.size ≠ 0 := by decide) (hx : EvM tm x (.lo k τ s i p) := by (first | (refine EvM.mb _ rfl ?_; first | assumption | exact rfl) | exact EvM.plain rfl rfl)) : YL E.P v j ⟨dst, .fieldAddr T x f, ty, pos, af, gd⟩ tm σ [] (.lo k τ s i (p + o)) [] := M_fieldAddr_lo hT hk hf hF hz hx
theorem q3 {dst : Option Tmp} {gd : Option (Nat × Bool)} {T : TypeId} {x : Operand} {te : TE} {k : Nat} {τ : Stamp} {s i p : Nat} {rows : List (List OV)} {row : List OV} {y : OV}  (hT : E.tab T = some te := by exact rfl) (ha : te.k.isAgg = false := by exact rfl) (hx : EvM tm x (.lo k τ s i p) := by (first | (refine EvM.mb _ rfl ?_; first | assumption | exact rfl) | exact EvM.plain rfl rfl)) (hs : σ k = some (τ, ⟨s, rows⟩) := by exact rfl) (hr : rows[i]? = some row := by exact rfl) (hy : row[p]? = some y := by exact rfl) : YL E.P v j ⟨dst, .load T x, ty, pos, af, gd⟩ tm σ [k] y [] := M_load_lo hT ha hx hs hr hy
theorem q5 {dst : Option Tmp} {gd : Option (Nat × Bool)} {T : TypeId} {x ix : Operand} {te ee : TE} {e : TypeId} {k : IntKind} {i : Int} {s : Nat} {rows : List (List TV)} {row : List TV}  (hT : E.tab T = some te := by exact rfl) (hk : te.k = .slice e := by exact rfl) (hE : E.tab e = some ee := by exact rfl) (hs : ee.size = s := by exact rfl) (hx : EvM tm x (.d (.sl s rows)) := by (first | (refine EvM.mb _ rfl ?_; first | assumption | exact rfl) | exact EvM.plain rfl rfl)) (hi : EvM tm ix (.int k i) := by (first | (refine EvM.mb _ rfl ?_; first | assumption | exact rfl) | exact EvM.plain rfl rfl)) (h0 : 0 ≤ i := by omega) (hr : rows[i.toNat]? = some row := by (first | exact get_int (by omega) | exact get_map (by omega) default | assumption)) : YL E.P v j ⟨dst, .indexAddr T x ix, ty, pos, af, gd⟩ tm σ [] (.d (.pt row 0)) [] := M_indexAddr_sl hT hk hE hs hx hi h0 hr
theorem q6 {dst : Option Tmp} {gd : Option (Nat × Bool)} {T : TypeId} {x : Operand} {te : TE} {row : List TV} {p : Nat} {t : TV}  (hT : E.tab T = some te := by exact rfl) (ha : te.k.isAgg = false := by exact rfl) (hx : EvM tm x (.d (.pt row p)) := by (first | (refine EvM.mb _ rfl ?_; first | assumption | exact rfl) | exact EvM.plain rfl rfl)) (ht : row[p]? = some t := by exact rfl) : YL E.P v j ⟨dst, .load T x, ty, pos, af, gd⟩ tm σ [] (.d t) [] := M_load_pt hT ha hx ht
theorem q7 {dst : Option Tmp} {gd : Option (Nat × Bool)} {T T' : TypeId} {x y : Operand} {k : IntKind} {a b : Int}  (hx : EvM tm x (.int k a) := by (first | (refine EvM.mb _ rfl ?_; first | assumption | exact rfl) | exact EvM.plain rfl rfl)) (hy : EvM tm y (.int k b) := by (first | (refine EvM.mb _ rfl ?_; first | assumption | exact rfl) | exact EvM.plain rfl rfl)) : YL E.P v j ⟨dst, .binOp .eql T x y T', ty, pos, af, gd⟩ tm σ [] (.bool (decide (a = b))) [] := M_eql hx hy
theorem q8 {dst : Option Tmp} {gd : Option (Nat × Bool)} {T : TypeId} {x : Operand} {f : Nat} {te fe : TE} {fs : List (Nat × TypeId)} {o : Nat} {ft : TypeId} {row : List TV} {p : Nat}  (hT : E.tab T = some te := by exact rfl) (hk : te.k = .st fs := by exact rfl) (hf : fs[f]? = some (o, ft) := by exact rfl) (hF : E.tab ft = some fe := by exact rfl) (hz : fe.size ≠ 0 := by decide) (hx : EvM tm x (.d (.pt row p)) := by (first | (refine EvM.mb _ rfl ?_; first | assumption | exact rfl) | exact EvM.plain rfl rfl)) : YL E.P v j ⟨dst, .fieldAddr T x f, ty, pos, af, gd⟩ tm σ [] (.d (.pt row (p + o))) [] := M_fieldAddr_pt hT hk hf hF hz hx
theorem q11 {dst : Option Tmp} {x : Operand} {y : OV} (hcont : AO E.P v ops K (j + 1) rest (tm.putO dst y) (σ.apply [])) (h : ev tm x = some y := by exact rfl) : AO E.P v ops K j (⟨dst, .move x, ty, pos, af, none⟩ :: rest) tm σ := S_move h hcont
theorem q12 {dst : Option Tmp} {x : Operand} {y : OV} (hcont : AO E.P v ops K (j + 1) rest (tm.putO dst y) (σ.apply [])) (h : ev tm x = some y := by exact rfl) : AO E.P v ops K j (⟨dst, .assign x, ty, pos, af, none⟩ :: rest) tm σ := S_assign h hcont
theorem q13 {d : Option Nat} {T e : TypeId} {te : TE} {x : Operand} {y : OV} {n : Nat} (hcont : AO E.P v ops K (j + 1) rest (tm.putO d (.int .i64 n)) (σ.apply [])) (hT : E.tab T = some te := by exact rfl) (hk : te.k = .slice e := by exact rfl) (hx : ev tm x = some y := by exact rfl) (hn : ∀ (G : Gh) (u : Value), RepO G y u → ∃ a c, u = .slice a n c := by (first | exact len_ints _ | exact len_map _ _ _ | exact len_sl _ _ | exact len_os _ _ _ _ | exact len_vw _ _ _ _ _ | exact len_nil)) : AO E.P v ops K j (⟨d, .call { callee := .builtin .len, args := #[x], argTypes := #[T] }, ty, pos, af, none⟩ :: rest) tm σ := S_len hT hk hx hn hcont
theorem q14 {dst : Option Tmp} {T : TypeId} {x : Operand} {te : TE} {k : Nat} {τ : Stamp} {s i p : Nat} {rows : List (List OV)} {row : List OV} (hcont : AO E.P v ops K (j + 1) rest (tm.putO dst (.ag ((row.drop p).take te.size))) (σ.apply [])) (hT : E.tab T = some te := by exact rfl) (ha : te.k.isAgg = true := by exact rfl) (hx : ev tm x = some (.lo k τ s i p) := by exact rfl) (hs : σ k = some (τ, ⟨s, rows⟩) := by exact rfl) (hr : rows[i]? = some row := by (first | exact rfl | exact get_map (by omega) default | exact get_set_ne (by omega) (by omega) (0 : Int) | assumption)) (hl : p + te.size ≤ row.length := by exact Nat.le_of_ble_eq_true rfl) : AO E.P v ops K j (⟨dst, .load T x, ty, pos, af, none⟩ :: rest) tm σ := S_load_loA hT ha hx hs hr hl hcont
theorem q15 {d : Option Nat} {T : TypeId} {x z : Operand} {te : TE} {k : Nat} {τ : Stamp} {s i p : Nat} {rows : List (List OV)} {row : List OV} {y : OV} (hcont : AO E.P v ops K (j + 1) rest (tm.putO d .un) (σ.apply [(k, some (τ, ⟨s, rows.set i (setAt row p y.cells)⟩))])) (hT : E.tab T = some te := by exact rfl) (hx : ev tm x = some (.lo k τ s i p) := by exact rfl) (hz : ev tm z = some y := by exact rfl) (hw' : y.wide = true := by exact rfl) (hn : y.cells.length = te.size := by exact rfl) (hs : σ k = some (τ, ⟨s, rows⟩) := by exact rfl) (hr : rows[i]? = some row := by (first | exact rfl | exact get_map (by omega) (0 : Int) | exact get_map (by omega) default | exact get_set_ne (by omega) (by omega) (0 : Int) | assumption)) (hp : p + te.size ≤ row.length := by exact Nat.le_of_ble_eq_true rfl) : AO E.P v ops K j (⟨d, .store T x z, ty, pos, af, none⟩ :: rest) tm σ := S_store hT hx hz hw' hn hs hr hp hcont
theorem q16 {dst : Option Tmp} {T : TypeId} {x : Operand} {te : TE} {k : Nat} {τ : Stamp} {s i p : Nat} {rows : List (List OV)} {row : List OV} {y : OV} (hcont : AO E.P v ops K (j + 1) rest (tm.putO dst y) (σ.apply [])) (hT : E.tab T = some te := by exact rfl) (ha : te.k.isAgg = false := by exact rfl) (hx : ev tm x = some (.lo k τ s i p) := by exact rfl) (hs : σ k = some (τ, ⟨s, rows⟩) := by exact rfl) (hr : rows[i]? = some row := by (first | exact rfl | exact get_map (by omega) (0 : Int) | exact get_map (by omega) default | exact hrow _ | assumption)) (hy : row[p]? = some y := by exact rfl) : AO E.P v ops K j (⟨dst, .load T x, ty, pos, af, none⟩ :: rest) tm σ := S_load_lo hT ha hx hs hr hy hcont
theorem q17 {dst : Option Tmp} {T : TypeId} {x ix : Operand} {te ee : TE} {e : TypeId} {k : IntKind} {i : Int} {s : Nat} {rows : List (List TV)} {row : List TV} (hcont : AO E.P v ops K (j + 1) rest (tm.putO dst (.d (.pt row 0))) (σ.apply [])) (hT : E.tab T = some te := by exact rfl) (hk : te.k = .slice e := by exact rfl) (hE : E.tab e = some ee := by exact rfl) (hs : ee.size = s := by exact rfl) (hx : ev tm x = some (.d (.sl s rows)) := by exact rfl) (hi : ev tm ix = some (.int k i) := by exact rfl) (h0 : 0 ≤ i := by omega) (hr : rows[i.toNat]? = some row := by (first | exact get_int (by omega) | exact get_map (by omega) default | assumption)) : AO E.P v ops K j (⟨dst, .indexAddr T x ix, ty, pos, af, none⟩ :: rest) tm σ := S_indexAddr_sl hT hk hE hs hx hi h0 hr hcont
theorem q18 {gd : Option (Nat × Bool)} {d : Option Nat} {T e : TypeId} {te : TE} {x : Operand} {y : OV} {n : Nat}  (hT : E.tab T = some te := by exact rfl) (hk : te.k = .slice e := by exact rfl) (hx : EvM tm x y := by (first | (refine EvM.mb _ rfl ?_; first | assumption | exact rfl) | exact EvM.plain rfl rfl)) (hn : ∀ (G : Gh) (u : Value), RepO G y u → ∃ a c, u = .slice a n c := by (first | exact len_ints _ | exact len_map _ _ _ | exact len_sl _ _ | exact len_os _ _ _ _ | exact len_vw _ _ _ _ _ | exact len_nil)) : YL E.P v j ⟨d, .call { callee := .builtin .len, args := #[x], argTypes := #[T] }, ty, pos, af, gd⟩ tm σ [] (.int .i64 n) [] := M_len hT hk hx hn
theorem q19 {d : Nat} {T e : TypeId} {te ee : TE} {x z : Operand} {s k : Nat} {y1 y2 : OV} {ks1 ks2 : List Nat} {rows1 rows2 : List (List OV)} (hcont : AO E.P v ops K (j + 1) rest (tm.putO (some d) (.os k (v, j) s (rows1.length + rows2.length))) (σ.apply [(k, some ((v, j), ⟨s, rows1 ++ rows2⟩))])) (hT : E.tab T = some te := by exact rfl) (hk : te.k = .slice e := by exact rfl) (hE : E.tab e = some ee := by exact rfl) (hs : ee.size = s := by exact rfl) (hpos : 0 < s := by decide) (hx : ev tm x = some y1 := by exact rfl) (hz : ev tm z = some y2 := by exact rfl) (h1 : Dst σ s d y1 ks1 k rows1 := by (first | exact .os _ _ _ _ rfl (by first | rfl | (first | omega | (simp only [List.length_append, List.length_map, List.length_take, List.length_drop, List.length_cons, List.length_nil, List.length_replicate, chop_length] <;> omega))) | exact .nil)) (h2 : Src σ s y2 ks2 rows2 := by (first | exact .os _ _ _ _ rfl (by first | rfl | (first | omega | (simp only [List.length_append, List.length_map, List.length_take, List.length_drop, List.length_cons, List.length_nil, List.length_replicate, chop_length] <;> omega))) | exact .vw _ _ _ _ _ rfl (by (first | omega | (simp only [List.length_append, List.length_map, List.length_take, List.length_drop, List.length_cons, List.length_nil, List.length_replicate, chop_length] <;> omega))) | exact .nil | exact .sl _)) (hlf : ∀ r ∈ rows2, ∀ y ∈ r, y.leaf = true := by (repeat (first | exact LeafR.nil | exact LeafR.cells _ _ | exact LeafR.d _ | (apply LeafR.one; exact rfl) | exact hleaf _ | refine LeafR.take _ ?_ | refine LeafR.drop _ ?_ | refine LeafR.app ?_ ?_ | (apply LeafR.lit; exact rfl) | assumption))) (hb : (rows1.length + rows2.length) * ee.bytes ≤ 140737488355328 := by (show _ * (Nat.succ _) ≤ _; (first | omega | (simp only [List.length_append, List.length_map, List.length_take, List.length_drop, List.length_cons, List.length_nil, List.length_replicate, chop_length] <;> omega)))) (hm : rows1.length + rows2.length ≤ maxLen := by (unfold maxLen; (first | omega | (simp only [List.length_append, List.length_map, List.length_take, List.length_drop, List.length_cons, List.length_nil, List.length_replicate, chop_length] <;> omega)))) : AO E.P v ops K j (⟨some d, .call { callee := .builtin .append, args := #[x, z], argTypes := #[T, T] }, ty, pos, af, none⟩ :: rest) tm σ := S_append hT hk hE hs hpos hx hz h1 h2 hlf hb hm hcont
theorem q20 {d : Nat} {T e : TypeId} {te ee : TE} {x z : Operand} {s k : Nat} {y1 y2 : OV} {ks1 ks2 : List Nat} {rows1 rows2 : List (List OV)} (hcont : AO E.P v ops K (j + 1) rest (tm.putO (some d) (.os k (v, j) s (rows1.length + rows2.length))) (σ.apply [(k, some ((v, j), ⟨s, rows1 ++ rows2⟩))])) (hT : E.tab T = some te := by exact rfl) (hk : te.k = .slice e := by exact rfl) (hE : E.tab e = some ee := by exact rfl) (hs : ee.size = s := by exact rfl) (hpos : 0 < s := by decide) (hx : ev tm x = some y1 := by exact rfl) (hz : ev tm z = some y2 := by exact rfl) (h1 : Dst σ s d y1 ks1 k rows1 := by (first | exact .os _ _ _ _ rfl (by first | rfl | (first | omega | (simp only [List.length_append, List.length_map, List.length_take, List.length_drop, List.length_cons, List.length_nil, List.length_replicate, chop_length] <;> omega))) | exact .nil)) (h2 : Src σ s y2 ks2 rows2 := by (first | exact .os _ _ _ _ rfl (by first | rfl | (first | omega | (simp only [List.length_append, List.length_map, List.length_take, List.length_drop, List.length_cons, List.length_nil, List.length_replicate, chop_length] <;> omega))) | exact .vw _ _ _ _ _ rfl (by (first | omega | (simp only [List.length_append, List.length_map, List.length_take, List.length_drop, List.length_cons, List.length_nil, List.length_replicate, chop_length] <;> omega))) | exact .nil | exact .sl _)) (hlf : ∀ r ∈ rows2, ∀ y ∈ r, y.leaf = true := by (repeat (first | exact LeafR.nil | exact LeafR.cells _ _ | exact LeafR.d _ | (apply LeafR.one; exact rfl) | refine LeafR.take _ ?_ | refine LeafR.drop _ ?_ | refine LeafR.app ?_ ?_ | assumption))) (hb : (rows1.length + rows2.length) * ee.bytes ≤ 140737488355328 := by (show _ * (Nat.succ _) ≤ _; (first | omega | (simp only [List.length_append, List.length_map, List.length_take, List.length_drop, List.length_cons, List.length_nil, List.length_replicate, chop_length] <;> omega)))) (hm : rows1.length + rows2.length ≤ maxLen := by (unfold maxLen; (first | omega | (simp only [List.length_append, List.length_map, List.length_take, List.length_drop, List.length_cons, List.length_nil, List.length_replicate, chop_length] <;> omega)))) : AO E.P v ops K j (⟨some d, .call { callee := .builtin .append, args := #[x, z], argTypes := #[T, T] }, ty, pos, af, none⟩ :: rest) tm σ := S_append hT hk hE hs hpos hx hz h1 h2 hlf hb hm hcont
theorem q21 {dst : Option Tmp} {gd : Option (Nat × Bool)} {T T' : TypeId} {x y : Operand} {k : IntKind} {a b : Int}  (hx : EvM tm x (.int k a) := by (first | (refine EvM.mb _ rfl ?_; first | assumption | exact rfl) | exact EvM.plain rfl rfl)) (hy : EvM tm y (.int k b) := by (first | (refine EvM.mb _ rfl ?_; first | assumption | exact rfl) | exact EvM.plain rfl rfl)) : YL E.P v j ⟨dst, .binOp .geq T x y T', ty, pos, af, gd⟩ tm σ [] (.bool (decide (b ≤ a))) [] := M_geq hx hy
theorem q22 {dst : Option Tmp} {gd : Option (Nat × Bool)} {T T' : TypeId} {x y : Operand} {k : IntKind} {a b : Int}  (hx : EvM tm x (.int k a) := by (first | (refine EvM.mb _ rfl ?_; first | assumption | exact rfl) | exact EvM.plain rfl rfl)) (hy : EvM tm y (.int k b) := by (first | (refine EvM.mb _ rfl ?_; first | assumption | exact rfl) | exact EvM.plain rfl rfl)) : YL E.P v j ⟨dst, .binOp .lss T x y T', ty, pos, af, gd⟩ tm σ [] (.bool (decide (a < b))) [] := M_lss hx hy
theorem q23 {dst : Option Tmp} {T : TypeId} {x : Operand} {te : TE} {row : List TV} {p : Nat} {t : TV} (hcont : AO E.P v ops K (j + 1) rest (tm.putO dst (.d t)) (σ.apply [])) (hT : E.tab T = some te := by exact rfl) (ha : te.k.isAgg = false := by exact rfl) (hx : ev tm x = some (.d (.pt row p)) := by exact rfl) (ht : row[p]? = some t := by exact rfl) : AO E.P v ops K j (⟨dst, .load T x, ty, pos, af, none⟩ :: rest) tm σ := S_load_pt hT ha hx ht hcont
theorem q26 {dst : Option Tmp} {gd : Option (Nat × Bool)} {T T' : TypeId} {x y : Operand} {k : IntKind} {a b : Int}  (hx : EvM tm x (.int k a) := by (first | (refine EvM.mb _ rfl ?_; first | assumption | exact rfl) | exact EvM.plain rfl rfl)) (hy : EvM tm y (.int k b) := by (first | (refine EvM.mb _ rfl ?_; first | assumption | exact rfl) | exact EvM.plain rfl rfl)) : YL E.P v j ⟨dst, .binOp .neq T x y T', ty, pos, af, gd⟩ tm σ [] (.bool (!decide (a = b))) [] := M_neq hx hy
theorem q27 {dst : Option Tmp} {gd : Option (Nat × Bool)} {T : TypeId} {x : Operand} {te : TE} {k : Nat} {τ : Stamp} {s i p : Nat} {rows : List (List OV)} {row : List OV}  (hT : E.tab T = some te := by exact rfl) (ha : te.k.isAgg = true := by exact rfl) (hx : EvM tm x (.lo k τ s i p) := by (first | (refine EvM.mb _ rfl ?_; first | assumption | exact rfl) | exact EvM.plain rfl rfl)) (hs : σ k = some (τ, ⟨s, rows⟩) := by exact rfl) (hr : rows[i]? = some row := by exact rfl) (hl : p + te.size ≤ row.length := by exact Nat.le_of_ble_eq_true rfl) : YL E.P v j ⟨dst, .load T x, ty, pos, af, gd⟩ tm σ [k] (.ag ((row.drop p).take te.size)) [] := M_load_loA hT ha hx hs hr hl
theorem q28 {dst : Option Tmp} {T : TypeId} {x : Operand} {f : Nat} {te fe : TE} {fs : List (Nat × TypeId)} {o : Nat} {ft : TypeId} {k : Nat} {τ : Stamp} {s i p : Nat} (hcont : AO E.P v ops K (j + 1) rest (tm.putO dst (.lo k τ s i (p + o))) (σ.apply [])) (hT : E.tab T = some te := by exact rfl) (hk : te.k = .st fs := by exact rfl) (hf : fs[f]? = some (o, ft) := by exact rfl) (hF : E.tab ft = some fe := by exact rfl) (hz : fe.size ≠ 0 := by decide) (hx : ev tm x = some (.lo k τ s i p) := by exact rfl) : AO E.P v ops K j (⟨dst, .fieldAddr T x f, ty, pos, af, none⟩ :: rest) tm σ := S_fieldAddr_lo hT hk hf hF hz hx hcont
theorem q30 {dst : Option Tmp} {T : TypeId} {x ix : Operand} {te ee : TE} {e : TypeId} {k : IntKind} {i : Int} {s : Nat} {rows : List (List TV)} {row : List TV} (hcont : DO E.P v ops KD (j + 1) rest (tm.putO dst (.d (.pt row 0))) (σ.apply []) (Foot.mk [] (wkeys []) :: acc)) (hT : E.tab T = some te := by exact rfl) (hk : te.k = .slice e := by exact rfl) (hE : E.tab e = some ee := by exact rfl) (hs : ee.size = s := by exact rfl) (hx : ev tm x = some (.d (.sl s rows)) := by exact rfl) (hi : ev tm ix = some (.int k i) := by exact rfl) (h0 : 0 ≤ i := by omega) (hr : rows[i.toNat]? = some row := by (first | exact get_int (by omega) | exact get_map (by omega) default | assumption)) : DO E.P v ops KD j (⟨dst, .indexAddr T x ix, ty, pos, af, none⟩ :: rest) tm σ acc := D_indexAddr_sl hT hk hE hs hx hi h0 hr hcont
theorem q31 {dst : Option Tmp} {T : TypeId} {x : Operand} {te : TE} {k : Nat} {τ : Stamp} {s i p : Nat} {rows : List (List OV)} {row : List OV} {y : OV} (hcont : AO E.P v ops K (j + 1) rest (tm.putO dst y) (σ.apply [])) (hT : E.tab T = some te := by exact rfl) (ha : te.k.isAgg = false := by exact rfl) (hx : ev tm x = some (.lo k τ s i p) := by exact rfl) (hs : σ k = some (τ, ⟨s, rows⟩) := by exact rfl) (hr : rows[i]? = some row := by (first | exact rfl | exact get_map (by omega) (0 : Int) | exact get_map (by omega) default)) (hy : row[p]? = some y := by exact rfl) : AO E.P v ops K j (⟨dst, .load T x, ty, pos, af, none⟩ :: rest) tm σ := S_load_lo hT ha hx hs hr hy hcont
theorem q32 {dst : Option Tmp} {T : TypeId} {x : Operand} {f : Nat} {te fe : TE} {fs : List (Nat × TypeId)} {o : Nat} {ft : TypeId} {row : List TV} {p : Nat} (hcont : AO E.P v ops K (j + 1) rest (tm.putO dst (.d (.pt row (p + o)))) (σ.apply [])) (hT : E.tab T = some te := by exact rfl) (hk : te.k = .st fs := by exact rfl) (hf : fs[f]? = some (o, ft) := by exact rfl) (hF : E.tab ft = some fe := by exact rfl) (hz : fe.size ≠ 0 := by decide) (hx : ev tm x = some (.d (.pt row p)) := by exact rfl) : AO E.P v ops K j (⟨dst, .fieldAddr T x f, ty, pos, af, none⟩ :: rest) tm σ := S_fieldAddr_pt hT hk hf hF hz hx hcont
theorem q33 {dst : Option Tmp} {T : TypeId} {x : Operand} {te : TE} {row : List TV} {p : Nat} (hcont : AO E.P v ops K (j + 1) rest (tm.putO dst (.ag (((row.drop p).take te.size).map .d))) (σ.apply [])) (hT : E.tab T = some te := by exact rfl) (ha : te.k.isAgg = true := by exact rfl) (hx : ev tm x = some (.d (.pt row p)) := by exact rfl) (hl : p + te.size ≤ row.length := by exact Nat.le_of_ble_eq_true rfl) : AO E.P v ops K j (⟨dst, .load T x, ty, pos, af, none⟩ :: rest) tm σ := S_load_ptA hT ha hx hl hcont
theorem q35 {dst : Option Tmp} {gd : Option (Nat × Bool)} {T T' : TypeId} {x y : Operand} {k : IntKind} {a b : Int}  (hx : EvM tm x (.int k a) := by (first | (refine EvM.mb _ rfl ?_; first | assumption | exact rfl) | exact EvM.plain rfl rfl)) (hy : EvM tm y (.int k b) := by (first | (refine EvM.mb _ rfl ?_; first | assumption | exact rfl) | exact EvM.plain rfl rfl)) : YL E.P v j ⟨dst, .binOp .gtr T x y T', ty, pos, af, gd⟩ tm σ [] (.bool (decide (b < a))) [] := M_gtr hx hy
theorem q36 {dst : Option Tmp} {T T' : TypeId} {x y : Operand} {a b : Int} (hcont : AO E.P v ops K (j + 1) rest (tm.putO dst (.int .i64 (a + b))) (σ.apply [])) (hx : ev tm x = some (.int .i64 a) := by exact rfl) (hy : ev tm y = some (.int .i64 b) := by exact rfl) (h : -9223372036854775808 ≤ a + b ∧ a + b ≤ 9223372036854775807 := by omega) : AO E.P v ops K j (⟨dst, .binOp .add T x y T', ty, pos, af, none⟩ :: rest) tm σ := S_add64 hx hy h hcont
theorem q37 {dst : Option Tmp} {T T' : TypeId} {x y : Operand} {k : IntKind} {a b : Int} (hcont : AO E.P v ops K (j + 1) rest (tm.putO dst (.bool (decide (a < b)))) (σ.apply [])) (hx : ev tm x = some (.int k a) := by exact rfl) (hy : ev tm y = some (.int k b) := by exact rfl) : AO E.P v ops K j (⟨dst, .binOp .lss T x y T', ty, pos, af, none⟩ :: rest) tm σ := S_lss hx hy hcont
theorem q38 {dst : Option Tmp} {x : Operand} {y : OV} (hcont : DO E.P v ops KD (j + 1) rest (tm.putO dst y) (σ.apply []) (Foot.mk [] (wkeys []) :: acc)) (h : ev tm x = some y := by exact rfl) : DO E.P v ops KD j (⟨dst, .move x, ty, pos, af, none⟩ :: rest) tm σ acc := D_move h hcont
theorem q40 {d : Nat} {T : TypeId} {x : Operand} {y : OV} {n : Nat} (hcont : AO E.P v ops K (j + 1) rest (tm.putO (some d) (.lo d (v, j) n 0 0)) (σ.apply [(d, some ((v, j), ⟨n, [y.cells]⟩))])) (hx : ev tm x = some y := by exact rfl) (hw' : y.wide = true := by exact rfl) (hn : y.cells.length = n := by exact rfl) : AO E.P v ops K j (⟨some d, .box T x, ty, pos, af, none⟩ :: rest) tm σ := S_box hx hw' hn hcont
theorem q42 {dst : Option Tmp} {gd : Option (Nat × Bool)} {T : TypeId} {x : Operand} {b : Bool}  (hx : EvM tm x (.bool b) := by (first | (refine EvM.mb _ rfl ?_; first | assumption | exact rfl) | exact EvM.plain rfl rfl)) : YL E.P v j ⟨dst, .unOp .not T x, ty, pos, af, gd⟩ tm σ [] (.bool (!b)) [] := M_not hx
theorem q44 {dst : Option Tmp} {T T' : TypeId} {x y : Operand} {k : IntKind} {a b : Int} (hcont : AO E.P v ops K (j + 1) rest (tm.putO dst (.bool (!decide (a = b)))) (σ.apply [])) (hx : ev tm x = some (.int k a) := by exact rfl) (hy : ev tm y = some (.int k b) := by exact rfl) : AO E.P v ops K j (⟨dst, .binOp .neq T x y T', ty, pos, af, none⟩ :: rest) tm σ := S_neq hx hy hcont
theorem q45 {dst : Option Tmp} {gd : Option (Nat × Bool)} {T : TypeId} {x ix : Operand} {te ee : TE} {e : TypeId} {k : IntKind} {i : Int} {q s n : Nat} {τ : Stamp}  (hT : E.tab T = some te := by exact rfl) (hk : te.k = .slice e := by exact rfl) (hE : E.tab e = some ee := by exact rfl) (hs : ee.size = s := by exact rfl) (hx : EvM tm x (.os q τ s n) := by (first | (refine EvM.mb _ rfl ?_; first | assumption | exact rfl) | exact EvM.plain rfl rfl)) (hi : EvM tm ix (.int k i) := by (first | (refine EvM.mb _ rfl ?_; first | assumption | exact rfl) | exact EvM.plain rfl rfl)) (hin : 0 ≤ i ∧ i < n := by omega) : YL E.P v j ⟨dst, .indexAddr T x ix, ty, pos, af, gd⟩ tm σ [] (.lo q τ s i.toNat 0) [] := M_indexAddr_os hT hk hE hs hx hi hin
theorem q46 {dst : Option Tmp} {T T' : TypeId} {x y : Operand} {k : IntKind} {a b : Int} (hcont : AO E.P v ops K (j + 1) rest (tm.putO dst (.bool (decide (a = b)))) (σ.apply [])) (hx : ev tm x = some (.int k a) := by exact rfl) (hy : ev tm y = some (.int k b) := by exact rfl) : AO E.P v ops K j (⟨dst, .binOp .eql T x y T', ty, pos, af, none⟩ :: rest) tm σ := S_eql hx hy hcont
theorem q47 {dst : Option Tmp} {gd : Option (Nat × Bool)} {T : TypeId} {x : Operand} {te : TE} {row : List TV} {p : Nat}  (hT : E.tab T = some te := by exact rfl) (ha : te.k.isAgg = true := by exact rfl) (hx : EvM tm x (.d (.pt row p)) := by (first | (refine EvM.mb _ rfl ?_; first | assumption | exact rfl) | exact EvM.plain rfl rfl)) (hl : p + te.size ≤ row.length := by exact Nat.le_of_ble_eq_true rfl) : YL E.P v j ⟨dst, .load T x, ty, pos, af, gd⟩ tm σ [] (.ag (((row.drop p).take te.size).map .d)) [] := M_load_ptA hT ha hx hl
theorem q48 {dst : Option Tmp} {T : TypeId} {x : Operand} {te : TE} {k : Nat} {τ : Stamp} {s i p : Nat} {rows : List (List OV)} {row : List OV} {y : OV} (hcont : DO E.P v ops KD (j + 1) rest (tm.putO dst y) (σ.apply []) (Foot.mk [k] (wkeys []) :: acc)) (hT : E.tab T = some te := by exact rfl) (ha : te.k.isAgg = false := by exact rfl) (hx : ev tm x = some (.lo k τ s i p) := by exact rfl) (hs : σ k = some (τ, ⟨s, rows⟩) := by exact rfl) (hr : rows[i]? = some row := by (first | exact rfl | exact get_map (by omega) (0 : Int) | exact get_map (by omega) default)) (hy : row[p]? = some y := by exact rfl) : DO E.P v ops KD j (⟨dst, .load T x, ty, pos, af, none⟩ :: rest) tm σ acc := D_load_lo hT ha hx hs hr hy hcont
theorem q49 {dst : Option Tmp} {gd : Option (Nat × Bool)} {T : TypeId} {x : Operand} {te : TE} {k : Nat} {τ : Stamp} {s i p : Nat} {rows : List (List OV)} {row : List OV} {y : OV}  (hT : E.tab T = some te := by exact rfl) (ha : te.k.isAgg = false := by exact rfl) (hx : EvM tm x (.lo k τ s i p) := by (first | (refine EvM.mb _ rfl ?_; first | assumption | exact rfl) | exact EvM.plain rfl rfl)) (hs : σ k = some (τ, ⟨s, rows⟩) := by exact rfl) (hr : rows[i]? = some row := by (first | exact get_map (by omega) (0 : Int) | exact get_map (by omega) default)) (hy : row[p]? = some y := by exact rfl) : YL E.P v j ⟨dst, .load T x, ty, pos, af, gd⟩ tm σ [k] y [] := M_load_lo hT ha hx hs hr hy
theorem q50 {dst : Option Tmp} {T : TypeId} {x : Operand} {te : TE} {row : List TV} {p : Nat} {t : TV} (hcont : DO E.P v ops KD (j + 1) rest (tm.putO dst (.d t)) (σ.apply []) (Foot.mk [] (wkeys []) :: acc)) (hT : E.tab T = some te := by exact rfl) (ha : te.k.isAgg = false := by exact rfl) (hx : ev tm x = some (.d (.pt row p)) := by exact rfl) (ht : row[p]? = some t := by exact rfl) : DO E.P v ops KD j (⟨dst, .load T x, ty, pos, af, none⟩ :: rest) tm σ acc := D_load_pt hT ha hx ht hcont
theorem q51 {d : Nat} {e : TypeId} {te ee : TE} {s : Nat} (hcont : AO E.P v ops K (j + 1) rest (tm.putO (some d) (.os d (v, j) s 0)) (σ.apply [(d, some ((v, j), ⟨s, []⟩))])) (hT : E.tab ty = some te := by exact rfl) (hk : te.k = .slice e := by exact rfl) (hE : E.tab e = some ee := by exact rfl) (hs : ee.size = s := by exact rfl) : AO E.P v ops K j (⟨some d, .assign (.const (.slice none 0 0)), ty, pos, af, none⟩ :: rest) tm σ := S_nilA hT hk hE hs hcont
theorem q52 {dst : Option Tmp} {T : TypeId} {x : Operand} {f : Nat} {te fe : TE} {fs : List (Nat × TypeId)} {o : Nat} {ft : TypeId} {row : List TV} {p : Nat} (hcont : DO E.P v ops KD (j + 1) rest (tm.putO dst (.d (.pt row (p + o)))) (σ.apply []) (Foot.mk [] (wkeys []) :: acc)) (hT : E.tab T = some te := by exact rfl) (hk : te.k = .st fs := by exact rfl) (hf : fs[f]? = some (o, ft) := by exact rfl) (hF : E.tab ft = some fe := by exact rfl) (hz : fe.size ≠ 0 := by decide) (hx : ev tm x = some (.d (.pt row p)) := by exact rfl) : DO E.P v ops KD j (⟨dst, .fieldAddr T x f, ty, pos, af, none⟩ :: rest) tm σ acc := D_fieldAddr_pt hT hk hf hF hz hx hcont
theorem q54 {d : Option Nat} {T : TypeId} {parts : List (Nat × Operand)} {te : TE} {fs : List (Nat × TypeId)} {ys : List (Nat × OV)} {cs : List OV} (hcont : AO E.P v ops K (j + 1) rest (tm.putO d (.ag cs)) (σ.apply [])) (hT : E.tab T = some te := by exact rfl) (hk : te.k = .st fs := by exact rfl) (hfs : (fs.all fun f => (E.tab f.2).isSome) = true := by exact rfl) (hp : evParts tm parts = some ys := by exact rfl) (hc : fillO (fun i => (fs[i]?).map fun f : Nat × TypeId => (f.1, sizeT E f.2)) (consts te.zero) ys = some cs := by exact rfl) : AO E.P v ops K j (⟨d, .build T parts.toArray, ty, pos, af, none⟩ :: rest) tm σ := S_build hT hk hfs hp hc hcont
theorem q56 {dst : Option Tmp} {T : TypeId} {x : Operand} {f : Nat} {te fe : TE} {fs : List (Nat × TypeId)} {o : Nat} {ft : TypeId} {k : Nat} {τ : Stamp} {s i p : Nat} (hcont : DO E.P v ops KD (j + 1) rest (tm.putO dst (.lo k τ s i (p + o))) (σ.apply []) (Foot.mk [] (wkeys []) :: acc)) (hT : E.tab T = some te := by exact rfl) (hk : te.k = .st fs := by exact rfl) (hf : fs[f]? = some (o, ft) := by exact rfl) (hF : E.tab ft = some fe := by exact rfl) (hz : fe.size ≠ 0 := by decide) (hx : ev tm x = some (.lo k τ s i p) := by exact rfl) : DO E.P v ops KD j (⟨dst, .fieldAddr T x f, ty, pos, af, none⟩ :: rest) tm σ acc := D_fieldAddr_lo hT hk hf hF hz hx hcont
theorem q58 {dst : Option Tmp} {gd : Option (Nat × Bool)} {T T' : TypeId} {x y : Operand} {a b : Int}  (hx : EvM tm x (.int .i64 a) := by (first | (refine EvM.mb _ rfl ?_; first | assumption | exact rfl) | exact EvM.plain rfl rfl)) (hy : EvM tm y (.int .i64 b) := by (first | (refine EvM.mb _ rfl ?_; first | assumption | exact rfl) | exact EvM.plain rfl rfl)) (h : -9223372036854775808 ≤ a - b ∧ a - b ≤ 9223372036854775807 := by omega) : YL E.P v j ⟨dst, .binOp .sub T x y T', ty, pos, af, gd⟩ tm σ [] (.int .i64 (a - b)) [] := M_sub64 hx hy h
end
section
variable {P : Program} {v j : Nat} {ops : Array Oper} {K : Tm → Store → Prop} {KD : List Foot → Tm → Store → Prop} {acc : List Foot} {rest : List Oper} {tm : Tm} {σ : Store} {dst : Option Tmp} {ty : TypeId} {pos : String} {af : Array Edge} {gd : Option (Nat × Bool)} {c p q : Operand} {b x z : Bool}
theorem q0  (hk : AO P v ops K (j + 1) rest (tm.putO dst (.bool (b || z))) (σ.apply [])) (hc : EvM tm c (.bool b) := by (first | (refine EvM.mb _ rfl ?_; first | assumption | exact rfl) | exact EvM.plain rfl rfl)) (hp : ev tm p = some (.bool true) := by exact rfl) (hq : EvB tm q z (b = false) := by (first | (refine EvB.mb _ rfl ?_; first | exact fun h => h | exact fun h => bnot_mk h | exact fun h => band_mk (by assumption) h | exact fun h => band_mk (by assumption) (bnot_mk h) | (intro h; simp_all)) | exact EvB.plain rfl)) : AO P v ops K j (⟨dst, .pick c p q, ty, pos, af, none⟩ :: rest) tm σ := S_pick_or hc hp hq hk
theorem q4  (hk : AO P v ops K (j + 1) rest (tm.putO dst (.bool (b && x))) (σ.apply [])) (hc : EvM tm c (.bool b) := by (first | (refine EvM.mb _ rfl ?_; first | assumption | exact rfl) | exact EvM.plain rfl rfl)) (hp : EvB tm p x (b = true) := by (first | (refine EvB.mb _ rfl ?_; first | exact fun h => h | exact fun h => bnot_mk h | exact fun h => band_mk (by assumption) h | exact fun h => band_mk (by assumption) (bnot_mk h) | (intro h; simp_all)) | exact EvB.plain rfl)) (hq : ev tm q = some (.bool false) := by exact rfl) : AO P v ops K j (⟨dst, .pick c p q, ty, pos, af, none⟩ :: rest) tm σ := S_pick_and hc hp hq hk
theorem q9  (hk : DO P v ops KD (j + 1) rest (tm.putO dst (.bool (b && x))) (σ.apply []) (Foot.mk [] (wkeys []) :: acc)) (hc : EvM tm c (.bool b) := by (first | (refine EvM.mb _ rfl ?_; first | assumption | exact rfl) | exact EvM.plain rfl rfl)) (hp : EvB tm p x (b = true) := by (first | (refine EvB.mb _ rfl ?_; first | exact fun h => h | exact fun h => bnot_mk h | exact fun h => band_mk (by assumption) h | exact fun h => band_mk (by assumption) (bnot_mk h) | (intro h; simp_all)) | exact EvB.plain rfl)) (hq : ev tm q = some (.bool false) := by exact rfl) : DO P v ops KD j (⟨dst, .pick c p q, ty, pos, af, none⟩ :: rest) tm σ acc := D_pick_and hc hp hq hk
theorem q10   (hc : EvM tm c (.bool b) := by (first | (refine EvM.mb _ rfl ?_; first | assumption | exact rfl) | exact EvM.plain rfl rfl)) (hp : EvB tm p x (b = true) := by (first | (refine EvB.mb _ rfl ?_; first | exact fun h => h | exact fun h => bnot_mk h | exact fun h => band_mk (by assumption) h | exact fun h => band_mk (by assumption) (bnot_mk h) | (intro h; simp_all)) | exact EvB.plain rfl)) (hq : ev tm q = some (.bool false) := by exact rfl) : YL P v j ⟨dst, .pick c p q, ty, pos, af, gd⟩ tm σ [] (.bool (b && x)) [] := M_pick_and hc hp hq
theorem q24   (hc : EvM tm c (.bool b) := by (first | (refine EvM.mb _ rfl ?_; first | assumption | exact rfl) | exact EvM.plain rfl rfl)) (hp : ev tm p = some (.bool true) := by exact rfl) (hq : EvB tm q z (b = false) := by (first | (refine EvB.mb _ rfl ?_; first | exact fun h => h | exact fun h => bnot_mk h | exact fun h => band_mk (by assumption) h | exact fun h => band_mk (by assumption) (bnot_mk h) | (intro h; simp_all)) | exact EvB.plain rfl)) : YL P v j ⟨dst, .pick c p q, ty, pos, af, gd⟩ tm σ [] (.bool (b || z)) [] := M_pick_or hc hp hq
theorem q25  (hk : DO P v ops KD (j + 1) rest (tm.putO dst (.bool (b || z))) (σ.apply []) (Foot.mk [] (wkeys []) :: acc)) (hc : EvM tm c (.bool b) := by (first | (refine EvM.mb _ rfl ?_; first | assumption | exact rfl) | exact EvM.plain rfl rfl)) (hp : ev tm p = some (.bool true) := by exact rfl) (hq : EvB tm q z (b = false) := by (first | (refine EvB.mb _ rfl ?_; first | exact fun h => h | exact fun h => bnot_mk h | exact fun h => band_mk (by assumption) h | exact fun h => band_mk (by assumption) (bnot_mk h) | (intro h; simp_all)) | exact EvB.plain rfl)) : DO P v ops KD j (⟨dst, .pick c p q, ty, pos, af, none⟩ :: rest) tm σ acc := D_pick_or hc hp hq hk
end
end Go.Proofs.YtgeaaegkcbjhlaaGreat
/- The ground of the walks of layer 6 on: worlds that lie over a world (old blocks as they were, new ones behind), a drawn region walked once in that class, lists of numbers in memory. -/
namespace Go.Proofs.YtgeaaegkcbjhlaaGreat
open Go.RowKit
theorem ret_bool {a b : Bool} (h : a = b) : Ending.returned (.bool a) = .returned (.bool b) := by rw [h]
/-! ### worlds over a world -/
/-- how far a world lies over another one: the draws' count, the blocks behind -/
structure Over where
  n : Nat
  os : Array Obj
  deriving Inhabited
def over (w : World) (p : Over) : World := { w with drawn := p.n, heap := w.heap ++ p.os }
theorem over_heap (w : World) (p : Over) (k : Nat) (h : k < w.heap.size) : (over w p).heap[k]? = w.heap[k]? := by
  simp [over, Array.getElem?_append, h]
theorem over_cell (w : World) (p : Over) {b o : Nat} {v : Value} (hb : b < w.heap.size) (h : w.cell? ⟨b, o, none⟩ = some v) : (over w p).cell? ⟨b, o, none⟩ = some v := by
  rw [← h]; exact World.cell?_of_block (over_heap w p b hb)
theorem over_below (w : World) (p : Over) : Below w.heap.size w (over w p) :=
  ⟨rfl, rfl, rfl, by simp [over], fun k hk => over_heap w p k hk⟩
theorem below_over {w w' : World} (h : Below w.heap.size w w') : ∃ p : Over, w' = over w p := by
  refine ⟨⟨w'.drawn, w'.heap.extract w.heap.size w'.heap.size⟩, ?_⟩
  obtain ⟨h1, h2, h3, h4, h5⟩ := h
  cases w with | mk heap tape drawn os output =>
  cases w' with | mk heap' tape' drawn' os' output' =>
  simp only at h1 h2 h3 h4 h5
  subst h1 h2 h3
  simp only [over, World.mk.injEq, and_true]
  apply Array.ext_getElem?
  intro i
  by_cases hi : i < heap.size
  · rw [h5 i hi]; simp [Array.getElem?_append, hi]
  · simp only [Array.getElem?_append, hi, if_false]
    rw [Array.getElem?_extract]
    split
    · congr 1; omega
    · rw [Array.getElem?_eq_none (by omega)]
theorem over_over (w : World) (p q : Over) : ∃ r : Over, over (over w p) q = over w r :=
  ⟨⟨q.n, p.os ++ q.os⟩, by simp [over, Array.append_assoc]⟩
/-- A region that draws its order, whose operations only read and whose callees leave what lay below as it was: walked once, in the text's order. -/
theorem wp_region_over {P : Program} {id : Nat} {Q : Exit → Act → World → Prop} {a : Act} {w : World} {l : List Oper} (hm : P.follows .mixedOrders = true) (hB : Region.lexB .any l.toArray = true)
    (h : wpQuiet P l.toArray (fun w' => ∃ p : Over, w' = over w p) (fun a' => ∀ w', (∃ p : Over, w' = over w p) → Q .normal a' w') l a) : (Code.region id l.toArray true).wp P Q a w :=
  wp_region_quiet (C := fun w' => ∃ p : Over, w' = over w p) hm hB ⟨⟨w.drawn + 1, #[]⟩, by simp [over]⟩ (by simpa using h)
/-- A new block under a world's name of its own. -/
theorem alloc_opaque {w : World} {cs : Array Value} {t : TypeId} {X : World → Prop}
    (h : ∀ W, Below w.heap.size w W → w.heap.size < W.heap.size → (∀ j v, cs[j]? = some v → W.cell? ⟨w.heap.size, j, none⟩ = some v) → X W) : X (w.alloc (.cells cs t)) :=
  h _ ((Below.refl _ _).alloc (Nat.le_refl _) _) (by simp) (fun j v hj => by
    have hp : (w.alloc (.cells cs t)).heap[w.heap.size]? = some (.cells cs t) := by show (w.heap.push _)[w.heap.size]? = _; simp
    rw [← hj]; simp only [World.cell?, hp]; simp)
/-- A callee's contract, met in a world of the class. -/
theorem quiet_over {P : Program} {f : FuncId} {args : Array Value} {w : World} {p : Over} {v : Value}
    (h : Calls P f args (over w p) fun e w' => e = .returned v ∧ Below (over w p).heap.size (over w p) w') : Calls P f args (over w p) fun e w'' => e = .returned v ∧ ∃ q : Over, w'' = over w q :=
  h.mono fun _ _ ⟨he, hb⟩ => ⟨he, by obtain ⟨q, rfl⟩ := below_over hb; exact over_over w p q⟩
end Go.Proofs.YtgeaaegkcbjhlaaGreat
/- Events as the program has them: which store, which load; whether one is bare. -/
namespace Go.Proofs.YtgeaaegkcbjhlaaGreat
open Go.RowKit
/-- A slice value: where it lies, its length, its room. -/
structure Sl where
  a : Option Addr
  n : Nat
  c : Nat
  deriving Inhabited
def Sl.v (s : Sl) : Value := .slice s.a s.n s.c
/-- An event: its numbers, and its three lists as slice values with what they hold. -/
structure Ev where
  hart : Int
  kind : Int
  addr : Int
  val : Int
  rval : Int
  aq : Bool
  rl : Bool
  pred : Int
  succ : Int
  rsv : Bool
  av : Sl
  dv : Sl
  cv : Sl
  addrs : List Int
  datas : List Int
  ctrls : List Int
  deriving Inhabited
def Ev.cells (e : Ev) : List Value := [.int .i64 e.hart, .int .i64 e.kind, .int .u32 e.addr, .int .u32 e.val, .int .u32 e.rval, .bool e.aq, .bool e.rl, .int .i64 e.pred, .int .i64 e.succ, .bool e.rsv, .slice e.av.a e.av.n e.av.c, .slice e.dv.a e.dv.n e.dv.c, .slice e.cv.a e.cv.n e.cv.c]
def Ev.agg (e : Ev) : Value := .agg #[.int .i64 e.hart, .int .i64 e.kind, .int .u32 e.addr, .int .u32 e.val, .int .u32 e.rval, .bool e.aq, .bool e.rl, .int .i64 e.pred, .int .i64 e.succ, .bool e.rsv, .slice e.av.a e.av.n e.av.c, .slice e.dv.a e.dv.n e.dv.c, .slice e.cv.a e.cv.n e.cv.c]
/-- its lists are short -/
def Ev.small (e : Ev) : Prop := e.av.n ≤ 1152921504606846976 ∧ e.dv.n ≤ 1152921504606846976 ∧ e.cv.n ≤ 1152921504606846976
def Ev.stB (e : Ev) : Bool := e.kind == 2 || e.kind == 3 || e.kind == 5
def Ev.ldB (e : Ev) : Bool := e.kind == 1 || e.kind == 3
def Ev.bareB (e : Ev) : Bool :=
  if e.kind = 5 then e.hart == -1 && e.rval == 0 && !(decide (0 < e.av.n + e.dv.n + e.cv.n)) && !(e.pred != 0 || e.succ != 0) && !(e.aq || e.rl || e.rsv)
  else if e.kind = 1 then e.val == 0 && !(e.pred != 0 || e.succ != 0) && e.dv.n == 0
  else if e.kind = 2 then e.rval == 0 && !(e.pred != 0 || e.succ != 0)
  else if e.kind = 3 then !(e.pred != 0 || e.succ != 0) && !e.rsv
  else if e.kind = 4 then e.addr == 0 && e.val == 0 && e.rval == 0 && !(e.aq || e.rl || e.rsv) && e.av.n + e.dv.n == 0 && decide (0 ≤ e.pred) && decide (e.pred ≤ 3) && decide (0 ≤ e.succ) && decide (e.succ ≤ 3)
  else false
theorem stores_c (e : Ev) (w : World) :
    Calls Tryz.prog 47 #[e.agg] w fun o w' => o = .returned (.bool e.stB) ∧ Below w.heap.size w w' := by
  obtain ⟨hart, kind, addr, val, rval, aq, rl, pred, succ, rsv, av, dv, cv, _, _, _⟩ := e
  unfold Ev.agg Ev.stB
  dsimp only
  go_enter Tryz.func47, Tryz.ntmps47
  go_wp2
  all_goals
    go_ret
    exact ⟨ret_bool (by simp_all), (Below.refl _ _).alloc (Nat.le_refl _) _⟩
theorem loads_c (e : Ev) (w : World) :
    Calls Tryz.prog 46 #[e.agg] w fun o w' => o = .returned (.bool e.ldB) ∧ Below w.heap.size w w' := by
  obtain ⟨hart, kind, addr, val, rval, aq, rl, pred, succ, rsv, av, dv, cv, _, _, _⟩ := e
  unfold Ev.agg Ev.ldB
  dsimp only
  go_enter Tryz.func46, Tryz.ntmps46
  go_wp2
  all_goals
    go_ret
    exact ⟨ret_bool (by simp_all), (Below.refl _ _).alloc (Nat.le_refl _) _⟩
theorem bare_eq (e : Ev) : e.bareB =
    if e.kind == 5 then e.hart == -1 && e.rval == 0 && !(decide (0 < (e.av.n : Int) + e.dv.n + e.cv.n)) && !(e.pred != 0 || e.succ != 0) && !(e.aq || e.rl || e.rsv)
    else if e.kind == 1 then e.val == 0 && !(e.pred != 0 || e.succ != 0) && (e.dv.n : Int) == 0
    else if e.kind == 2 then e.rval == 0 && !(e.pred != 0 || e.succ != 0)
    else if e.kind == 3 then !(e.pred != 0 || e.succ != 0) && !e.rsv
    else if e.kind == 4 then e.addr == 0 && e.val == 0 && e.rval == 0 && !(e.aq || e.rl || e.rsv) && ((e.av.n : Int) + e.dv.n == 0) && decide (0 ≤ e.pred) && decide (e.pred ≤ 3) && decide (0 ≤ e.succ) && decide (e.succ ≤ 3)
    else false := by
  have h1 : decide (0 < e.av.n + e.dv.n + e.cv.n) = decide (0 < (e.av.n : Int) + e.dv.n + e.cv.n) := by congr 1; apply propext; omega
  have h2 : (e.dv.n == 0) = ((e.dv.n : Int) == 0) := by rw [Bool.eq_iff_iff]; simp
  have h3 : (e.av.n + e.dv.n == 0) = ((e.av.n : Int) + e.dv.n == 0) := by rw [Bool.eq_iff_iff]; simp; omega
  unfold Ev.bareB
  rw [h1, h2, h3]
  simp only [beq_iff_eq]
set_option maxRecDepth 100000 in
set_option maxHeartbeats 1000000 in
theorem bare_c (e : Ev) (hs : e.small) (w : World) :
    Calls Tryz.prog 44 #[e.agg] w fun o w' => o = .returned (.bool e.bareB) ∧ Below w.heap.size w w' := by
  rw [bare_eq]
  obtain ⟨hart, kind, addr, val, rval, aq, rl, pred, succ, rsv, ⟨aa, an, ac⟩, ⟨da, dn, dc⟩, ⟨ca, cn, cc⟩, _, _, _⟩ := e
  unfold Ev.small at hs
  unfold Ev.agg
  dsimp only at hs ⊢
  obtain ⟨h1, h2, h3⟩ := hs
  obtain ⟨k5, hk5⟩ : ∃ bool_ : Bool, (kind == 5) = bool_ := ⟨_, rfl⟩
  obtain ⟨k1, hk1⟩ : ∃ bool_ : Bool, (kind == 1) = bool_ := ⟨_, rfl⟩
  obtain ⟨k2, hk2⟩ : ∃ bool_ : Bool, (kind == 2) = bool_ := ⟨_, rfl⟩
  obtain ⟨k3, hk3⟩ : ∃ bool_ : Bool, (kind == 3) = bool_ := ⟨_, rfl⟩
  obtain ⟨k4, hk4⟩ : ∃ bool_ : Bool, (kind == 4) = bool_ := ⟨_, rfl⟩
  obtain ⟨hm, hhm⟩ : ∃ bool_ : Bool, (hart == -1) = bool_ := ⟨_, rfl⟩
  obtain ⟨r0, hr0⟩ : ∃ bool_ : Bool, (rval == 0) = bool_ := ⟨_, rfl⟩
  obtain ⟨v0, hv0⟩ : ∃ bool_ : Bool, (val == 0) = bool_ := ⟨_, rfl⟩
  obtain ⟨a0, ha0⟩ : ∃ bool_ : Bool, (addr == 0) = bool_ := ⟨_, rfl⟩
  obtain ⟨dp, hdp⟩ : ∃ bool_ : Bool, decide (0 < (an : Int) + dn + cn) = bool_ := ⟨_, rfl⟩
  obtain ⟨p0, hp0⟩ : ∃ bool_ : Bool, (pred != 0) = bool_ := ⟨_, rfl⟩
  obtain ⟨s0, hs0⟩ : ∃ bool_ : Bool, (succ != 0) = bool_ := ⟨_, rfl⟩
  obtain ⟨d0, hd0⟩ : ∃ bool_ : Bool, ((dn : Int) == 0) = bool_ := ⟨_, rfl⟩
  obtain ⟨ad, had⟩ : ∃ bool_ : Bool, ((an : Int) + dn == 0) = bool_ := ⟨_, rfl⟩
  obtain ⟨pg, hpg⟩ : ∃ bool_ : Bool, decide (0 ≤ pred) = bool_ := ⟨_, rfl⟩
  obtain ⟨pl, hpl⟩ : ∃ bool_ : Bool, decide (pred ≤ 3) = bool_ := ⟨_, rfl⟩
  obtain ⟨sg, hsg⟩ : ∃ bool_ : Bool, decide (0 ≤ succ) = bool_ := ⟨_, rfl⟩
  obtain ⟨sl, hsl⟩ : ∃ bool_ : Bool, decide (succ ≤ 3) = bool_ := ⟨_, rfl⟩
  rw [hk5, hk1, hk2, hk3, hk4, hhm, hr0, hv0, ha0, hdp, hp0, hs0, hd0, had, hpg, hpl, hsg, hsl]
  obtain ⟨res, hres⟩ : ∃ x : Bool, (if k5 then hm && r0 && !dp && !(p0 || s0) && !(aq || rl || rsv) else if k1 then v0 && !(p0 || s0) && d0 else if k2 then r0 && !(p0 || s0) else if k3 then !(p0 || s0) && !rsv else if k4 then a0 && v0 && r0 && !(aq || rl || rsv) && ad && pg && pl && sg && sl else false) = x := ⟨_, rfl⟩
  rw [hres]
  have RES := Lib.hid hres
  clear hres
  go_enter Tryz.func44, Tryz.ntmps44
  go_upto_region 0 with (fail)
  go_cut [0, 1] (fun s0 s1 wx => s1 = .pointer (some ⟨w.heap.size, 0, none⟩) ∧ Below w.heap.size w wx ∧ wx.cell? ⟨w.heap.size, 0, none⟩ = some (Value.int IntKind.i64 hart) ∧ wx.cell? ⟨w.heap.size, 1, none⟩ = some (Value.int IntKind.i64 kind) ∧ wx.cell? ⟨w.heap.size, 2, none⟩ = some (Value.int IntKind.u32 addr) ∧ wx.cell? ⟨w.heap.size, 3, none⟩ = some (Value.int IntKind.u32 val) ∧ wx.cell? ⟨w.heap.size, 4, none⟩ = some (Value.int IntKind.u32 rval) ∧ wx.cell? ⟨w.heap.size, 5, none⟩ = some (Value.bool aq) ∧ wx.cell? ⟨w.heap.size, 6, none⟩ = some (Value.bool rl) ∧ wx.cell? ⟨w.heap.size, 7, none⟩ = some (Value.int IntKind.i64 pred) ∧ wx.cell? ⟨w.heap.size, 8, none⟩ = some (Value.int IntKind.i64 succ) ∧ wx.cell? ⟨w.heap.size, 9, none⟩ = some (Value.bool rsv) ∧ wx.cell? ⟨w.heap.size, 10, none⟩ = some (Value.slice aa an ac) ∧ wx.cell? ⟨w.heap.size, 11, none⟩ = some (Value.slice da dn dc) ∧ wx.cell? ⟨w.heap.size, 12, none⟩ = some (Value.slice ca cn cc))
  case first =>
    go_wp2_with fail
    go_meet
    exact ⟨rfl, (Below.refl _ _).alloc (Nat.le_refl _) _, by simp, by simp, by simp, by simp, by simp, by simp, by simp, by simp, by simp, by simp, by simp, by simp, by simp⟩
  case rest =>
  obtain ⟨rfl, hb, c0, c1, c2, c3, c4, c5, c6, c7, c8, c9, c10, c11, c12⟩ := hcut
  go_upto_region 2 with (fail)
  go_cut [4] (fun s4 wx => s4 = .bool (p0 || s0) ∧ wx = wc)
  case first =>
    go_wp2_with fail
    all_goals (go_meet; exact ⟨by simp_all, rfl⟩)
  case rest =>
    obtain ⟨rfl, rfl⟩ := hcut
    go_upto_region 3 with (fail)
    go_cut [5] (fun s5 wx => s5 = .bool (aq || rl || rsv) ∧ wx = wc)
    case first =>
      go_wp2_with fail
      all_goals (go_meet; exact ⟨by simp_all, rfl⟩)
    case rest =>
      obtain ⟨rfl, rfl⟩ := hcut
      generalize (p0 || s0) = fence at *
      generalize (aq || rl || rsv) = ord at *
      go_wp2
      all_goals
        go_ret
        exact ⟨ret_bool (by rw [← RES.out]; simp_all), hb⟩
end Go.Proofs.YtgeaaegkcbjhlaaGreat
/- What lies in memory below a block's number: a list of numbers, a list of events; an execution. -/
namespace Go.Proofs.YtgeaaegkcbjhlaaGreat
open Go.RowKit
/-- Below block B, the slice s holds these integers (of kind q). -/
def IntsIn (q : IntKind) (B : Nat) (w : World) (s : Sl) (xs : List Int) : Prop :=
  s.n = xs.length ∧ xs.length ≤ 1152921504606846976 ∧
  (xs = [] ∨ ∃ b off, s.a = some ⟨b, off, none⟩ ∧ b < B ∧ ∀ k, k < xs.length → w.cell? ⟨b, off + k, none⟩ = some (.int q (xs.getD k 0)))
theorem IntsIn.below {q : IntKind} {B : Nat} {w w' : World} {s : Sl} {xs : List Int} (h : IntsIn q B w s xs) (hb : Below B w w') : IntsIn q B w' s xs := by
  obtain ⟨h1, h2, h3⟩ := h
  refine ⟨h1, h2, ?_⟩
  rcases h3 with h3 | ⟨b, off, h4, h5, h6⟩
  · exact Or.inl h3
  · exact Or.inr ⟨b, off, h4, h5, fun k hk => by rw [hb.cell (by exact h5)]; exact h6 k hk⟩
theorem IntsIn.mono {q : IntKind} {B B' : Nat} {w : World} {s : Sl} {xs : List Int} (h : IntsIn q B w s xs) (hB : B ≤ B') : IntsIn q B' w s xs := by
  obtain ⟨h1, h2, h3⟩ := h
  refine ⟨h1, h2, ?_⟩
  rcases h3 with h3 | ⟨b, off, h4, h5, h6⟩
  · exact Or.inl h3
  · exact Or.inr ⟨b, off, h4, by omega, h6⟩
/-- an event's numbers fit their kinds -/
def Ev.wf (e : Ev) : Prop := (-9223372036854775808 ≤ e.hart ∧ e.hart ≤ 9223372036854775807) ∧ (-9223372036854775808 ≤ e.kind ∧ e.kind ≤ 9223372036854775807) ∧ (0 ≤ e.addr ∧ e.addr < 4294967296) ∧ (0 ≤ e.val ∧ e.val < 4294967296) ∧
  (0 ≤ e.rval ∧ e.rval < 4294967296) ∧ (-9223372036854775808 ≤ e.pred ∧ e.pred ≤ 9223372036854775807) ∧ (-9223372036854775808 ≤ e.succ ∧ e.succ ≤ 9223372036854775807)
/-- an event's own lists lie in memory -/
def Ev.okIn (B : Nat) (w : World) (e : Ev) : Prop :=
  IntsIn .i64 B w e.av e.addrs ∧ IntsIn .i64 B w e.dv e.datas ∧ IntsIn .i64 B w e.cv e.ctrls ∧ e.wf
theorem Ev.okIn.below {B : Nat} {w w' : World} {e : Ev} (h : e.okIn B w) (hb : Below B w w') : e.okIn B w' := ⟨h.1.below hb, h.2.1.below hb, h.2.2.1.below hb, h.2.2.2⟩
theorem Ev.okIn.small {B : Nat} {w : World} {e : Ev} (h : e.okIn B w) : e.small := by
  obtain ⟨⟨a1, a2, _⟩, ⟨b1, b2, _⟩, ⟨c1, c2, _⟩, _⟩ := h
  exact ⟨by omega, by omega, by omega⟩
/-- an event's cells from a place on -/
def EvCells (w : World) (b o : Nat) (e : Ev) : Prop := w.cell? ⟨b, o, none⟩ = some (Value.int IntKind.i64 e.hart) ∧ w.cell? ⟨b, o + 1, none⟩ = some (Value.int IntKind.i64 e.kind) ∧ w.cell? ⟨b, o + 2, none⟩ = some (Value.int IntKind.u32 e.addr) ∧ w.cell? ⟨b, o + 3, none⟩ = some (Value.int IntKind.u32 e.val) ∧ w.cell? ⟨b, o + 4, none⟩ = some (Value.int IntKind.u32 e.rval) ∧ w.cell? ⟨b, o + 5, none⟩ = some (Value.bool e.aq) ∧ w.cell? ⟨b, o + 6, none⟩ = some (Value.bool e.rl) ∧ w.cell? ⟨b, o + 7, none⟩ = some (Value.int IntKind.i64 e.pred) ∧ w.cell? ⟨b, o + 8, none⟩ = some (Value.int IntKind.i64 e.succ) ∧ w.cell? ⟨b, o + 9, none⟩ = some (Value.bool e.rsv) ∧ w.cell? ⟨b, o + 10, none⟩ = some (Value.slice e.av.a e.av.n e.av.c) ∧ w.cell? ⟨b, o + 11, none⟩ = some (Value.slice e.dv.a e.dv.n e.dv.c) ∧ w.cell? ⟨b, o + 12, none⟩ = some (Value.slice e.cv.a e.cv.n e.cv.c)
/-- Below block B, the slice s holds these events. -/
def EvsIn (B : Nat) (w : World) (s : Sl) (es : List Ev) : Prop :=
  s.n = es.length ∧ es.length ≤ 1152921504606846976 ∧ (∀ e ∈ es, e.okIn B w) ∧
  (es = [] ∨ ∃ b off, s.a = some ⟨b, off, none⟩ ∧ b < B ∧ ∀ k, k < es.length → EvCells w b (off + k * 13) (es.getD k default))
theorem EvCells.below {B : Nat} {w w' : World} {b o : Nat} {e : Ev} (h : EvCells w b o e) (hb : Below B w w') (hB : b < B) : EvCells w' b o e := by
  unfold EvCells at *
  simp only [show ∀ j, w'.cell? ⟨b, j, none⟩ = w.cell? ⟨b, j, none⟩ from fun j => hb.cell (p := ⟨b, j, none⟩) hB]
  exact h
theorem EvsIn.below {B : Nat} {w w' : World} {s : Sl} {es : List Ev} (h : EvsIn B w s es) (hb : Below B w w') : EvsIn B w' s es := by
  obtain ⟨h1, h2, h3, h4⟩ := h
  refine ⟨h1, h2, fun e he => (h3 e he).below hb, ?_⟩
  rcases h4 with h4 | ⟨b, off, h4, h5, h6⟩
  · exact Or.inl h4
  · exact Or.inr ⟨b, off, h4, h5, fun k hk => (h6 k hk).below hb h5⟩
theorem EvsIn.mono {B B' : Nat} {w : World} {s : Sl} {es : List Ev} (h : EvsIn B w s es) (hB : B ≤ B') : EvsIn B' w s es := by
  obtain ⟨h1, h2, h3, h4⟩ := h
  refine ⟨h1, h2, fun e he => ⟨(h3 e he).1.mono hB, (h3 e he).2.1.mono hB, (h3 e he).2.2.1.mono hB, (h3 e he).2.2.2⟩, ?_⟩
  rcases h4 with h4 | ⟨b, off, h4, h5, h6⟩
  · exact Or.inl h4
  · exact Or.inr ⟨b, off, h4, by omega, h6⟩
/-- the lists of coherence order: slices of slices -/
def RowsIn (B : Nat) (w : World) (s : Sl) (rows : List (Sl × List Int)) : Prop :=
  s.n = rows.length ∧ rows.length ≤ 1152921504606846976 ∧ (∀ r ∈ rows, IntsIn .i64 B w r.1 r.2) ∧
  (rows = [] ∨ ∃ b off, s.a = some ⟨b, off, none⟩ ∧ b < B ∧ ∀ k, k < rows.length → w.cell? ⟨b, off + k, none⟩ = some (rows.getD k default).1.v)
theorem RowsIn.below {B : Nat} {w w' : World} {s : Sl} {rows : List (Sl × List Int)} (h : RowsIn B w s rows) (hb : Below B w w') : RowsIn B w' s rows := by
  obtain ⟨h1, h2, h3, h4⟩ := h
  refine ⟨h1, h2, fun e he => (h3 e he).below hb, ?_⟩
  rcases h4 with h4 | ⟨b, off, h4, h5, h6⟩
  · exact Or.inl h4
  · exact Or.inr ⟨b, off, h4, h5, fun k hk => by rw [hb.cell (by exact h5)]; exact h6 k hk⟩
/-- An execution: its three slices, and what they hold. -/
structure Ex where
  es : Sl
  fs : Sl
  os : Sl
  evs : List Ev
  from_ : List Int
  order : List (Sl × List Int)
  deriving Inhabited
def Ex.agg (x : Ex) : Value := .agg #[.slice x.es.a x.es.n x.es.c, .slice x.fs.a x.fs.n x.fs.c, .slice x.os.a x.os.n x.os.c]
def Ex.inW (B : Nat) (w : World) (x : Ex) : Prop := EvsIn B w x.es x.evs ∧ IntsIn .i64 B w x.fs x.from_ ∧ RowsIn B w x.os x.order
theorem Ex.inW.below {B : Nat} {w w' : World} {x : Ex} (h : x.inW B w) (hb : Below B w w') : x.inW B w' := ⟨h.1.below hb, h.2.1.below hb, h.2.2.below hb⟩
/-! ### whether an event may hang on those -/
def depOk (es : List Ev) (n : Nat) (l : List Int) (i : Nat) : Bool :=
  !(decide (l.getD i 0 < 0)) && !(decide ((n : Int) ≤ l.getD i 0)) && !(decide (0 < i) && decide (l.getD i 0 ≤ l.getD (i - 1) 0)) &&
    !((es.getD (l.getD i 0).toNat default).hart != (es.getD n default).hart) && (es.getD (l.getD i 0).toNat default).ldB
def hangsTo (es : List Ev) (n : Nat) (l : List Int) (k : Nat) : Bool := (List.range k).all (depOk es n l)
def hangsB (es : List Ev) (n : Nat) (l : List Int) : Bool := hangsTo es n l l.length
theorem hangsTo_succ (es : List Ev) (n : Nat) (l : List Int) (k : Nat) : hangsTo es n l (k + 1) = (hangsTo es n l k && depOk es n l k) := by
  simp [hangsTo, List.range_succ]
theorem hangsTo_false (es : List Ev) (n : Nat) (l : List Int) (k : Nat) (hk : k < l.length) (h : depOk es n l k = false) : hangsB es n l = false := by
  unfold hangsB hangsTo
  rw [List.all_eq_false]
  exact ⟨k, by simpa using hk, by simp [h]⟩
set_option maxRecDepth 100000 in
set_option maxHeartbeats 1000000 in
theorem hangs_c (x : Ex) (n : Nat) (s : Sl) (l : List Int) (w : World) (hx : EvsIn w.heap.size w x.es x.evs) (hl : IntsIn .i64 w.heap.size w s l) (hn : n < x.evs.length) :
    Calls Tryz.prog 45 #[x.agg, .int .i64 n, .slice s.a s.n s.c] w fun o w' => o = .returned (.bool (hangsB x.evs n l)) ∧ Below w.heap.size w w' := by
  obtain ⟨⟨ea, en, ec⟩, ⟨fa, fn, fc⟩, ⟨oa, on, oc⟩, evs, from_, order⟩ := x
  obtain ⟨la, ln, lc⟩ := s
  obtain ⟨h1, h2, h3, h4⟩ := hx
  obtain ⟨g1, g2, g3⟩ := hl
  dsimp only at h1 h2 h3 h4 g1 g2 g3 hn
  unfold Ex.agg
  dsimp only
  subst h1 g1
  have h4' : ∃ b off, ea = some ⟨b, off, none⟩ ∧ b < w.heap.size ∧ ∀ k, k < evs.length → EvCells w b (off + k * 13) (evs.getD k default) := by
    rcases h4 with h4 | h4
    · subst h4; simp at hn
    · exact h4
  obtain ⟨b, off, rfl, hbB, hcell⟩ := h4'
  clear h4
  obtain ⟨res, hres⟩ : ∃ x : Bool, hangsB evs n l = x := ⟨_, rfl⟩
  rw [hres]
  have RES := Lib.hid hres
  clear hres
  go_enter Tryz.func45, Tryz.ntmps45
  go_upto_region 0 with (fail)
  go_cut [0, 3] (fun s0 s3 wx => s3 = .pointer (some ⟨w.heap.size, 0, none⟩) ∧ Below w.heap.size w wx ∧ w.heap.size < wx.heap.size ∧ wx.cell? ⟨w.heap.size, 0, none⟩ = some (.slice (some ⟨b, off, none⟩) evs.length ec))
  case first =>
    go_wp2_with fail
    go_meet
    exact ⟨rfl, (Below.refl _ _).alloc (Nat.le_refl _) _, by simp, by simp⟩
  case rest =>
  obtain ⟨rfl, hb, hsz, c0⟩ := hcut
  have hw : ∀ b o, b < w.heap.size → wc.cell? ⟨b, o, none⟩ = w.cell? ⟨b, o, none⟩ := fun b o h => hb.cell (p := ⟨b, o, none⟩) h
  go_wp2
  go_loopw [11] (fun i wr => ∃ k : Nat, k ≤ l.length ∧ i = .int .i64 k ∧ hangsTo evs n l k = true ∧ Below wc.heap.size wc wr) (fun i _ => l.length - (intOf i).toNat)
  case atStart => exact ⟨0, by omega, rfl, rfl, Below.refl _ _⟩
  case round =>
    obtain ⟨k, hk, rfl, hto, hbr⟩ := hrel
    have HTO := Lib.hid hto
    clear hto
    by_cases hlt : k < l.length
    · have hl' : ∃ lb lo, la = some ⟨lb, lo, none⟩ ∧ lb < w.heap.size ∧ ∀ k, k < l.length → w.cell? ⟨lb, lo + k, none⟩ = some (.int .i64 (l.getD k 0)) := by
        rcases g3 with g3 | g3
        · subst g3; simp at hlt
        · exact g3
      obtain ⟨lb, lo, rfl, hlB, hlc⟩ := hl'
      have hwr : ∀ b o, b < w.heap.size → wr.cell? ⟨b, o, none⟩ = w.cell? ⟨b, o, none⟩ := fun b o h => (hbr.cell (p := ⟨b, o, none⟩) (by show b < _; omega)).trans (hw b o h)
      have c0r : wr.cell? ⟨w.heap.size, 0, none⟩ = some (.slice (some ⟨b, off, none⟩) evs.length ec) := (hbr.cell (p := ⟨w.heap.size, 0, none⟩) hsz).trans c0
      obtain ⟨d, hd⟩ : ∃ d, l.getD k 0 = d := ⟨_, rfl⟩
      have ck : wr.cell? ⟨lb, lo + k, none⟩ = some (.int .i64 d) := by rw [hwr _ _ hlB, hlc k hlt, hd]
      have HD := Lib.hid hd
      have HW := Lib.hid hw
      have HC := Lib.hid hcell
      have HLC := Lib.hid hlc
      have HWR := Lib.hid hwr
      clear hw hcell hlc hwr hd g3
      have c0o : ∀ p, (over wr p).cell? ⟨w.heap.size, 0, none⟩ = some (.slice (some ⟨b, off, none⟩) evs.length ec) := fun p => over_cell wr p (by have := hbr.size; omega) c0r
      by_cases hd0 : d < 0
      · have F : Hid (res = false) := Lib.hid (by rw [← RES.out]; exact hangsTo_false _ _ _ _ hlt (by unfold depOk; rw [HD.out]; simp [hd0]))
        go_wp2
        refine wp_region_over (by kernel_rfl) (by kernel_rfl) ?_
        repeat (go_big_quiet_step (fail))
        refine wpQuiet_nil ?_
        intro wq hwq
        obtain ⟨pq, hwq2⟩ := hwq
        have hbq : Below wr.heap.size wr wq := by rw [hwq2]; exact over_below wr pq
        clear hwq2
        go_wp2
        go_ret
        exact ⟨ret_bool F.out.symm, hb.trans ((hbr.trans (hbq.mono hbr.size)).mono (by omega))⟩
      have b1 : decide (d < 0) = false := by simpa using hd0
      by_cases hdn : (n : Int) ≤ d
      · have F : Hid (res = false) := Lib.hid (by rw [← RES.out]; exact hangsTo_false _ _ _ _ hlt (by unfold depOk; rw [HD.out]; simp [hdn]))
        go_wp2
        refine wp_region_over (by kernel_rfl) (by kernel_rfl) ?_
        repeat (go_big_quiet_step (fail))
        refine wpQuiet_nil ?_
        intro wq hwq
        obtain ⟨pq, hwq2⟩ := hwq
        have hbq : Below wr.heap.size wr wq := by rw [hwq2]; exact over_below wr pq
        clear hwq2
        go_wp2
        go_ret
        exact ⟨ret_bool F.out.symm, hb.trans ((hbr.trans (hbq.mono hbr.size)).mono (by omega))⟩
      have b2 : decide ((n : Int) ≤ d) = false := by simpa using hdn
      obtain ⟨dn, rfl⟩ : ∃ dn : Nat, d = dn := ⟨d.toNat, by omega⟩
      have hdlt : dn < evs.length := by omega
      have b3 : decide (n ≤ dn) = false := by simp; omega
      have b4 : decide ((dn : Int) < 0) = false := by simp
      obtain ⟨E, hE⟩ : ∃ E, evs.getD dn default = E := ⟨_, rfl⟩
      obtain ⟨N, hN⟩ : ∃ N, evs.getD n default = N := ⟨_, rfl⟩
      have eD := (((HC.out dn hdlt).below hb hbB).below hbr (show b < wc.heap.size by omega))
      rw [hE] at eD
      have eN := (((HC.out n hn).below hb hbB).below hbr (show b < wc.heap.size by omega)).1
      rw [hN] at eN
      have hbs : b < wr.heap.size := by have := hbr.size; omega
      have oD : ∀ p, EvCells (over wr p) b (off + dn * 13) E := fun p => eD.below (over_below wr p) hbs
      have o2 : ∀ p, (over wr p).cell? ⟨b, off + n * 13, none⟩ = some (.int .i64 N.hart) := fun p => over_cell wr p hbs eN
      clear eD eN
      unfold EvCells at oD
      have o1 : ∀ p, (over wr p).cell? ⟨b, off + dn * 13, none⟩ = some (.int .i64 E.hart) := fun p => (oD p).1
      have p1 := fun p => (oD p).2.1
      have p2 := fun p => (oD p).2.2.1
      have p3 := fun p => (oD p).2.2.2.1
      have p4 := fun p => (oD p).2.2.2.2.1
      have p5 := fun p => (oD p).2.2.2.2.2.1
      have p6 := fun p => (oD p).2.2.2.2.2.2.1
      have p7 := fun p => (oD p).2.2.2.2.2.2.2.1
      have p8 := fun p => (oD p).2.2.2.2.2.2.2.2.1
      have p9 := fun p => (oD p).2.2.2.2.2.2.2.2.2.1
      have p10 := fun p => (oD p).2.2.2.2.2.2.2.2.2.2.1
      have p11 := fun p => (oD p).2.2.2.2.2.2.2.2.2.2.2.1
      have p12 := fun p => (oD p).2.2.2.2.2.2.2.2.2.2.2.2
      clear oD
      have HE := Lib.hid hE
      have HN := Lib.hid hN
      clear hE hN
      by_cases hk0 : 0 < k
      · have ckp : ∀ p, (over wr p).cell? ⟨lb, lo + (k - 1), none⟩ = some (.int .i64 (l.getD (k - 1) 0)) := fun p => over_cell wr p (by have := hbr.size; omega) (by rw [HWR.out _ _ hlB, HLC.out (k - 1) (by omega)])
        obtain ⟨pv, hpv⟩ : ∃ pv, l.getD (k - 1) 0 = pv := ⟨_, rfl⟩
        rw [hpv] at ckp
        have HPV := Lib.hid hpv
        clear hpv
        by_cases hge : (dn : Int) ≤ pv
        · have F : Hid (res = false) := Lib.hid (by rw [← RES.out]; exact hangsTo_false _ _ _ _ hlt (by unfold depOk; rw [HD.out, HPV.out]; simp [hk0, hge]))
          go_wp2
          refine wp_region_over (by kernel_rfl) (by kernel_rfl) ?_
          repeat (go_big_quiet_step (fail))
          refine wpQuiet_nil ?_
          intro wq hwq
          obtain ⟨pq, hwq2⟩ := hwq
          have hbq : Below wr.heap.size wr wq := by rw [hwq2]; exact over_below wr pq
          clear hwq2
          go_wp2
          go_ret
          exact ⟨ret_bool F.out.symm, hb.trans ((hbr.trans (hbq.mono hbr.size)).mono (by omega))⟩
        have b5 : decide ((dn : Int) ≤ pv) = false := by simpa using hge
        by_cases hh : (E.hart != N.hart) = true
        · have F : Hid (res = false) := Lib.hid (by rw [← RES.out]; exact hangsTo_false _ _ _ _ hlt (by unfold depOk; rw [HD.out, HPV.out, Int.toNat_natCast, HE.out, HN.out, hh]; simp))
          go_wp2
          refine wp_region_over (by kernel_rfl) (by kernel_rfl) ?_
          repeat (go_big_quiet_step (fail))
          refine wpQuiet_nil ?_
          intro wq hwq
          obtain ⟨pq, hwq2⟩ := hwq
          have hbq : Below wr.heap.size wr wq := by rw [hwq2]; exact over_below wr pq
          clear hwq2
          go_wp2
          go_ret
          exact ⟨ret_bool F.out.symm, hb.trans ((hbr.trans (hbq.mono hbr.size)).mono (by omega))⟩
        have hh' : (E.hart != N.hart) = false := by simpa using hh
        clear hh
        have LD := Lib.hid (fun w => loads_c E w)
        by_cases hL : E.ldB = true
        · have D : Hid (depOk evs n l k = true) := Lib.hid (by unfold depOk; rw [HD.out, HPV.out, Int.toNat_natCast, HE.out, HN.out, hh', hL]; simp; omega)
          have LL := Lib.hid hL
          clear hL
          go_wp2
          refine wp_region_over (by kernel_rfl) (by kernel_rfl) ?_
          repeat (go_big_quiet_step (((go_at_call 46; refine quiet_over (?_ : Calls _ _ _ _ fun e w' => e = .returned (.bool true) ∧ _); have t := LD.out; rw [LL.out] at t; exact t _))))
          refine wpQuiet_nil ?_
          intro wq hwq
          obtain ⟨pq, hwq2⟩ := hwq
          have hbq : Below wr.heap.size wr wq := by rw [hwq2]; exact over_below wr pq
          clear hwq2
          go_wp2
          go_roundw
          case rel => exact ⟨k + 1, by omega, by go_num, by rw [hangsTo_succ, HTO.out, D.out]; rfl, hbr.trans (hbq.mono hbr.size)⟩
          case measure => simp [intOf]; omega
        · have hL' : E.ldB = false := by simpa using hL
          have F : Hid (res = false) := Lib.hid (by rw [← RES.out]; exact hangsTo_false _ _ _ _ hlt (by unfold depOk; rw [HD.out, HPV.out, Int.toNat_natCast, HE.out, HN.out, hL']; simp))
          have LL := Lib.hid hL'
          clear hL hL'
          go_wp2
          refine wp_region_over (by kernel_rfl) (by kernel_rfl) ?_
          repeat (go_big_quiet_step (((go_at_call 46; refine quiet_over (?_ : Calls _ _ _ _ fun e w' => e = .returned (.bool false) ∧ _); have t := LD.out; rw [LL.out] at t; exact t _))))
          refine wpQuiet_nil ?_
          intro wq hwq
          obtain ⟨pq, hwq2⟩ := hwq
          have hbq : Below wr.heap.size wr wq := by rw [hwq2]; exact over_below wr pq
          clear hwq2
          go_wp2
          go_ret
          exact ⟨ret_bool F.out.symm, hb.trans ((hbr.trans (hbq.mono hbr.size)).mono (by omega))⟩
      · have hkz : ¬ (0 < k) := hk0
        by_cases hh : (E.hart != N.hart) = true
        · have F : Hid (res = false) := Lib.hid (by rw [← RES.out]; exact hangsTo_false _ _ _ _ hlt (by unfold depOk; rw [HD.out, Int.toNat_natCast, HE.out, HN.out, hh]; simp))
          go_wp2
          refine wp_region_over (by kernel_rfl) (by kernel_rfl) ?_
          repeat (go_big_quiet_step (fail))
          refine wpQuiet_nil ?_
          intro wq hwq
          obtain ⟨pq, hwq2⟩ := hwq
          have hbq : Below wr.heap.size wr wq := by rw [hwq2]; exact over_below wr pq
          clear hwq2
          go_wp2
          go_ret
          exact ⟨ret_bool F.out.symm, hb.trans ((hbr.trans (hbq.mono hbr.size)).mono (by omega))⟩
        have hh' : (E.hart != N.hart) = false := by simpa using hh
        clear hh
        have LD := Lib.hid (fun w => loads_c E w)
        by_cases hL : E.ldB = true
        · have D : Hid (depOk evs n l k = true) := Lib.hid (by unfold depOk; rw [HD.out, Int.toNat_natCast, HE.out, HN.out, hh', hL]; simp [hkz]; omega)
          have LL := Lib.hid hL
          clear hL
          go_wp2
          refine wp_region_over (by kernel_rfl) (by kernel_rfl) ?_
          repeat (go_big_quiet_step (((go_at_call 46; refine quiet_over (?_ : Calls _ _ _ _ fun e w' => e = .returned (.bool true) ∧ _); have t := LD.out; rw [LL.out] at t; exact t _))))
          refine wpQuiet_nil ?_
          intro wq hwq
          obtain ⟨pq, hwq2⟩ := hwq
          have hbq : Below wr.heap.size wr wq := by rw [hwq2]; exact over_below wr pq
          clear hwq2
          go_wp2
          go_roundw
          case rel => exact ⟨k + 1, by omega, by go_num, by rw [hangsTo_succ, HTO.out, D.out]; rfl, hbr.trans (hbq.mono hbr.size)⟩
          case measure => simp [intOf]; omega
        · have hL' : E.ldB = false := by simpa using hL
          have F : Hid (res = false) := Lib.hid (by rw [← RES.out]; exact hangsTo_false _ _ _ _ hlt (by unfold depOk; rw [HD.out, Int.toNat_natCast, HE.out, HN.out, hL']; simp))
          have LL := Lib.hid hL'
          clear hL hL'
          go_wp2
          refine wp_region_over (by kernel_rfl) (by kernel_rfl) ?_
          repeat (go_big_quiet_step (((go_at_call 46; refine quiet_over (?_ : Calls _ _ _ _ fun e w' => e = .returned (.bool false) ∧ _); have t := LD.out; rw [LL.out] at t; exact t _))))
          refine wpQuiet_nil ?_
          intro wq hwq
          obtain ⟨pq, hwq2⟩ := hwq
          have hbq : Below wr.heap.size wr wq := by rw [hwq2]; exact over_below wr pq
          clear hwq2
          go_wp2
          go_ret
          exact ⟨ret_bool F.out.symm, hb.trans ((hbr.trans (hbq.mono hbr.size)).mono (by omega))⟩
    · have hke : k = l.length := by omega
      have F : Hid (res = true) := Lib.hid (by rw [← RES.out]; unfold hangsB; rw [← hke]; exact HTO.out)
      clear hke
      go_wp2
      go_ret
      exact ⟨ret_bool F.out.symm, hb.trans (hbr.mono (by omega))⟩
end Go.Proofs.YtgeaaegkcbjhlaaGreat
