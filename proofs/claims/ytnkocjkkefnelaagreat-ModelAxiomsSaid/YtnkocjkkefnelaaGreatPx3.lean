/- Parts. -/
import Derived.Shelf.Small.Bits
import Derived.Shelf.Small.Wraps
import Derived.Shelf.Strconv.Itoa0
import Derived.Shelf.Sort.Plain
import Derived.Shelf.Slices.Turned
import Derived.Shelf.Slices.Equal
import Derived.Ground.Names2Prog
import Derived.Shelf.Slices.SearchI
import Derived.Shelf.Slices.In.SortNone
import Derived.Shelf.Slices.Empties2
import Derived.Test.YtnkocjkkefnelaaGreatProg
import Derived.Test.YtnkocjkkefnelaaGreatRows
import Derived.WalkKit
import Derived.WalkSpells
import Derived.WalkLawsBesides
import Derived.Deep.QuietTactic
import Derived.BigQuiet
import Derived.ProofKit
import Derived.Lib.Hide
import Derived.Sort.WalkA
import Derived.RangeFuncBox
import Derived.RangeFuncLeaves
import Derived.Shelf.Abstract
import Derived.OwnWalkIn
import Derived.TacticsInMore
import Derived.RegionIn
import Derived.LoopNIn
import Derived.LoopIn
import Derived.Maps.AppendAt
import Derived.Maps.OwnIn
import Derived.Sort.MapsRangeIn
import Derived.Sort.OwnSortedInts
import Derived.Test.YtnkocjkkefnelaaGreatPx2
set_option linter.unusedVariables false
set_option linter.unusedSimpArgs false
namespace Go.Proofs.YtnkocjkkefnelaaGreat
open Go.RowKit
section
variable {E : Env} {v j : Nat} {ops : Array Oper} {K : Tm → Store → Prop} {KD : List Foot → Tm → Store → Prop} {acc : List Foot} {rest : List Oper} {tm : Tm} {σ : Store} {ty : TypeId} {pos : String} {af : Array Edge}
theorem S_move {dst : Option Tmp} {x : Operand} {y : OV} (h : ev tm x = some y) (hcont : AO E.P v ops K (j + 1) rest (tm.putO dst y) (σ.apply [])) : AO E.P v ops K j (⟨dst, .move x, ty, pos, af, none⟩ :: rest) tm σ := uY (pB h) hcont
theorem D_move {dst : Option Tmp} {x : Operand} {y : OV} (h : ev tm x = some y) (hcont : DO E.P v ops KD (j + 1) rest (tm.putO dst y) (σ.apply []) (Foot.mk [] (wkeys []) :: acc)) : DO E.P v ops KD j (⟨dst, .move x, ty, pos, af, none⟩ :: rest) tm σ acc := vU (pB h) hcont
theorem M_move {dst : Option Tmp} {gd : Option (Nat × Bool)} {x : Operand} {y : OV} (h : EvM tm x y) : YL E.P v j ⟨dst, .move x, ty, pos, af, gd⟩ tm σ [] y [] := (pB h.st).strip
theorem S_assign {dst : Option Tmp} {x : Operand} {y : OV} (h : ev tm x = some y) (hcont : AO E.P v ops K (j + 1) rest (tm.putO dst y) (σ.apply [])) : AO E.P v ops K j (⟨dst, .assign x, ty, pos, af, none⟩ :: rest) tm σ := uY (oM h) hcont
theorem wW {dst : Option Tmp} {x : Operand} {y : OV} (h : ev tm x = some y) (hcont : DO E.P v ops KD (j + 1) rest (tm.putO dst y) (σ.apply []) (Foot.mk [] (wkeys []) :: acc)) : DO E.P v ops KD j (⟨dst, .assign x, ty, pos, af, none⟩ :: rest) tm σ acc := vU (oM h) hcont
theorem S_add64 {dst : Option Tmp} {T T' : TypeId} {x y : Operand} {a b : Int} (hx : ev tm x = some (.int .i64 a)) (hy : ev tm y = some (.int .i64 b)) (h : -9223372036854775808 ≤ a + b ∧ a + b ≤ 9223372036854775807) (hcont : AO E.P v ops K (j + 1) rest (tm.putO dst (.int .i64 (a + b))) (σ.apply [])) : AO E.P v ops K j (⟨dst, .binOp .add T x y T', ty, pos, af, none⟩ :: rest) tm σ := uY (qE hx hy h) hcont
theorem mM {dst : Option Tmp} {T T' : TypeId} {x y : Operand} {a b : Int} (hx : ev tm x = some (.int .i64 a)) (hy : ev tm y = some (.int .i64 b)) (h : -9223372036854775808 ≤ a + b ∧ a + b ≤ 9223372036854775807) (hcont : DO E.P v ops KD (j + 1) rest (tm.putO dst (.int .i64 (a + b))) (σ.apply []) (Foot.mk [] (wkeys []) :: acc)) : DO E.P v ops KD j (⟨dst, .binOp .add T x y T', ty, pos, af, none⟩ :: rest) tm σ acc := vU (qE hx hy h) hcont
theorem gV {dst : Option Tmp} {T T' : TypeId} {x y : Operand} {a b : Int} (hx : ev tm x = some (.int .i64 a)) (hy : ev tm y = some (.int .i64 b)) (h : -9223372036854775808 ≤ a - b ∧ a - b ≤ 9223372036854775807) (hcont : AO E.P v ops K (j + 1) rest (tm.putO dst (.int .i64 (a - b))) (σ.apply [])) : AO E.P v ops K j (⟨dst, .binOp .sub T x y T', ty, pos, af, none⟩ :: rest) tm σ := uY (qC hx hy h) hcont
theorem M_sub64 {dst : Option Tmp} {gd : Option (Nat × Bool)} {T T' : TypeId} {x y : Operand} {a b : Int} (hx : EvM tm x (.int .i64 a)) (hy : EvM tm y (.int .i64 b)) (h : -9223372036854775808 ≤ a - b ∧ a - b ≤ 9223372036854775807) : YL E.P v j ⟨dst, .binOp .sub T x y T', ty, pos, af, gd⟩ tm σ [] (.int .i64 (a - b)) [] := (qC hx.st hy.st h).strip
theorem S_rem {dst : Option Tmp} {T T' : TypeId} {x y : Operand} {k : IntKind} {a b : Int} (hx : ev tm x = some (.int k a)) (hy : ev tm y = some (.int k b)) (hb : b ≠ 0) (hcont : AO E.P v ops K (j + 1) rest (tm.putO dst (.int k (a.tmod b))) (σ.apply [])) : AO E.P v ops K j (⟨dst, .binOp .rem T x y T', ty, pos, af, none⟩ :: rest) tm σ := uY (rQ hx hy hb) hcont
theorem M_rem {dst : Option Tmp} {gd : Option (Nat × Bool)} {T T' : TypeId} {x y : Operand} {k : IntKind} {a b : Int} (hx : EvM tm x (.int k a)) (hy : EvM tm y (.int k b)) (hb : b ≠ 0) : YL E.P v j ⟨dst, .binOp .rem T x y T', ty, pos, af, gd⟩ tm σ [] (.int k (a.tmod b)) [] := (rQ hx.st hy.st hb).strip
theorem rD {dst : Option Tmp} {T T' : TypeId} {x y : Operand} {k : IntKind} {a b : Int} (hx : ev tm x = some (.int k a)) (hy : ev tm y = some (.int k b)) (hcont : AO E.P v ops K (j + 1) rest (tm.putO dst (.int k (k.wrap (BitVec.ofInt k.bits a &&& BitVec.ofInt k.bits b).toNat))) (σ.apply [])) : AO E.P v ops K j (⟨dst, .binOp .and T x y T', ty, pos, af, none⟩ :: rest) tm σ := uY (Y_and hx hy) hcont
theorem S_eql {dst : Option Tmp} {T T' : TypeId} {x y : Operand} {k : IntKind} {a b : Int} (hx : ev tm x = some (.int k a)) (hy : ev tm y = some (.int k b)) (hcont : AO E.P v ops K (j + 1) rest (tm.putO dst (.bool (decide (a = b)))) (σ.apply [])) : AO E.P v ops K j (⟨dst, .binOp .eql T x y T', ty, pos, af, none⟩ :: rest) tm σ := uY (rC hx hy) hcont
theorem jO {dst : Option Tmp} {T T' : TypeId} {x y : Operand} {k : IntKind} {a b : Int} (hx : ev tm x = some (.int k a)) (hy : ev tm y = some (.int k b)) (hcont : DO E.P v ops KD (j + 1) rest (tm.putO dst (.bool (decide (a = b)))) (σ.apply []) (Foot.mk [] (wkeys []) :: acc)) : DO E.P v ops KD j (⟨dst, .binOp .eql T x y T', ty, pos, af, none⟩ :: rest) tm σ acc := vU (rC hx hy) hcont
theorem M_eql {dst : Option Tmp} {gd : Option (Nat × Bool)} {T T' : TypeId} {x y : Operand} {k : IntKind} {a b : Int} (hx : EvM tm x (.int k a)) (hy : EvM tm y (.int k b)) : YL E.P v j ⟨dst, .binOp .eql T x y T', ty, pos, af, gd⟩ tm σ [] (.bool (decide (a = b))) [] := (rC hx.st hy.st).strip
theorem S_neq {dst : Option Tmp} {T T' : TypeId} {x y : Operand} {k : IntKind} {a b : Int} (hx : ev tm x = some (.int k a)) (hy : ev tm y = some (.int k b)) (hcont : AO E.P v ops K (j + 1) rest (tm.putO dst (.bool (!decide (a = b)))) (σ.apply [])) : AO E.P v ops K j (⟨dst, .binOp .neq T x y T', ty, pos, af, none⟩ :: rest) tm σ := uY (qX hx hy) hcont
theorem oR {dst : Option Tmp} {T T' : TypeId} {x y : Operand} {k : IntKind} {a b : Int} (hx : ev tm x = some (.int k a)) (hy : ev tm y = some (.int k b)) (hcont : DO E.P v ops KD (j + 1) rest (tm.putO dst (.bool (!decide (a = b)))) (σ.apply []) (Foot.mk [] (wkeys []) :: acc)) : DO E.P v ops KD j (⟨dst, .binOp .neq T x y T', ty, pos, af, none⟩ :: rest) tm σ acc := vU (qX hx hy) hcont
theorem M_neq {dst : Option Tmp} {gd : Option (Nat × Bool)} {T T' : TypeId} {x y : Operand} {k : IntKind} {a b : Int} (hx : EvM tm x (.int k a)) (hy : EvM tm y (.int k b)) : YL E.P v j ⟨dst, .binOp .neq T x y T', ty, pos, af, gd⟩ tm σ [] (.bool (!decide (a = b))) [] := (qX hx.st hy.st).strip
theorem S_lss {dst : Option Tmp} {T T' : TypeId} {x y : Operand} {k : IntKind} {a b : Int} (hx : ev tm x = some (.int k a)) (hy : ev tm y = some (.int k b)) (hcont : AO E.P v ops K (j + 1) rest (tm.putO dst (.bool (decide (a < b)))) (σ.apply [])) : AO E.P v ops K j (⟨dst, .binOp .lss T x y T', ty, pos, af, none⟩ :: rest) tm σ := uY (qZ hx hy) hcont
theorem oS {dst : Option Tmp} {T T' : TypeId} {x y : Operand} {k : IntKind} {a b : Int} (hx : ev tm x = some (.int k a)) (hy : ev tm y = some (.int k b)) (hcont : DO E.P v ops KD (j + 1) rest (tm.putO dst (.bool (decide (a < b)))) (σ.apply []) (Foot.mk [] (wkeys []) :: acc)) : DO E.P v ops KD j (⟨dst, .binOp .lss T x y T', ty, pos, af, none⟩ :: rest) tm σ acc := vU (qZ hx hy) hcont
theorem M_lss {dst : Option Tmp} {gd : Option (Nat × Bool)} {T T' : TypeId} {x y : Operand} {k : IntKind} {a b : Int} (hx : EvM tm x (.int k a)) (hy : EvM tm y (.int k b)) : YL E.P v j ⟨dst, .binOp .lss T x y T', ty, pos, af, gd⟩ tm σ [] (.bool (decide (a < b))) [] := (qZ hx.st hy.st).strip
theorem rV {dst : Option Tmp} {T T' : TypeId} {x y : Operand} {k : IntKind} {a b : Int} (hx : ev tm x = some (.int k a)) (hy : ev tm y = some (.int k b)) (hcont : AO E.P v ops K (j + 1) rest (tm.putO dst (.bool (decide (a ≤ b)))) (σ.apply [])) : AO E.P v ops K j (⟨dst, .binOp .leq T x y T', ty, pos, af, none⟩ :: rest) tm σ := uY (Y_leq hx hy) hcont
theorem oO {dst : Option Tmp} {T T' : TypeId} {x y : Operand} {k : IntKind} {a b : Int} (hx : ev tm x = some (.int k a)) (hy : ev tm y = some (.int k b)) (hcont : AO E.P v ops K (j + 1) rest (tm.putO dst (.bool (decide (b < a)))) (σ.apply [])) : AO E.P v ops K j (⟨dst, .binOp .gtr T x y T', ty, pos, af, none⟩ :: rest) tm σ := uY (rS hx hy) hcont
theorem M_gtr {dst : Option Tmp} {gd : Option (Nat × Bool)} {T T' : TypeId} {x y : Operand} {k : IntKind} {a b : Int} (hx : EvM tm x (.int k a)) (hy : EvM tm y (.int k b)) : YL E.P v j ⟨dst, .binOp .gtr T x y T', ty, pos, af, gd⟩ tm σ [] (.bool (decide (b < a))) [] := (rS hx.st hy.st).strip
theorem cV {dst : Option Tmp} {T T' : TypeId} {x y : Operand} {k : IntKind} {a b : Int} (hx : ev tm x = some (.int k a)) (hy : ev tm y = some (.int k b)) (hcont : AO E.P v ops K (j + 1) rest (tm.putO dst (.bool (decide (b ≤ a)))) (σ.apply [])) : AO E.P v ops K j (⟨dst, .binOp .geq T x y T', ty, pos, af, none⟩ :: rest) tm σ := uY (rB hx hy) hcont
theorem oT {dst : Option Tmp} {T T' : TypeId} {x y : Operand} {k : IntKind} {a b : Int} (hx : ev tm x = some (.int k a)) (hy : ev tm y = some (.int k b)) (hcont : DO E.P v ops KD (j + 1) rest (tm.putO dst (.bool (decide (b ≤ a)))) (σ.apply []) (Foot.mk [] (wkeys []) :: acc)) : DO E.P v ops KD j (⟨dst, .binOp .geq T x y T', ty, pos, af, none⟩ :: rest) tm σ acc := vU (rB hx hy) hcont
theorem M_geq {dst : Option Tmp} {gd : Option (Nat × Bool)} {T T' : TypeId} {x y : Operand} {k : IntKind} {a b : Int} (hx : EvM tm x (.int k a)) (hy : EvM tm y (.int k b)) : YL E.P v j ⟨dst, .binOp .geq T x y T', ty, pos, af, gd⟩ tm σ [] (.bool (decide (b ≤ a))) [] := (rB hx.st hy.st).strip
theorem S_eqlB {dst : Option Tmp} {T T' : TypeId} {x y : Operand} {a b : Bool} {te : TE} (hT : E.tab T = some te) (hk : te.k = .sc .bool) (hx : ev tm x = some (.bool a)) (hy : ev tm y = some (.bool b)) (hcont : AO E.P v ops K (j + 1) rest (tm.putO dst (.bool (a == b))) (σ.apply [])) : AO E.P v ops K j (⟨dst, .binOp .eql T x y T', ty, pos, af, none⟩ :: rest) tm σ := uY (Y_eqlB hT hk hx hy) hcont
theorem D_neqB {dst : Option Tmp} {T T' : TypeId} {x y : Operand} {a b : Bool} {te : TE} (hT : E.tab T = some te) (hk : te.k = .sc .bool) (hx : ev tm x = some (.bool a)) (hy : ev tm y = some (.bool b)) (hcont : DO E.P v ops KD (j + 1) rest (tm.putO dst (.bool (!(a == b)))) (σ.apply []) (Foot.mk [] (wkeys []) :: acc)) : DO E.P v ops KD j (⟨dst, .binOp .neq T x y T', ty, pos, af, none⟩ :: rest) tm σ acc := vU (Y_neqB hT hk hx hy) hcont
theorem yE {dst : Option Tmp} {T : TypeId} {x : Operand} {b : Bool} (hx : ev tm x = some (.bool b)) (hcont : AO E.P v ops K (j + 1) rest (tm.putO dst (.bool (!b))) (σ.apply [])) : AO E.P v ops K j (⟨dst, .unOp .not T x, ty, pos, af, none⟩ :: rest) tm σ := uY (qW hx) hcont
theorem rW {dst : Option Tmp} {T : TypeId} {x : Operand} {b : Bool} (hx : ev tm x = some (.bool b)) (hcont : DO E.P v ops KD (j + 1) rest (tm.putO dst (.bool (!b))) (σ.apply []) (Foot.mk [] (wkeys []) :: acc)) : DO E.P v ops KD j (⟨dst, .unOp .not T x, ty, pos, af, none⟩ :: rest) tm σ acc := vU (qW hx) hcont
theorem M_not {dst : Option Tmp} {gd : Option (Nat × Bool)} {T : TypeId} {x : Operand} {b : Bool} (hx : EvM tm x (.bool b)) : YL E.P v j ⟨dst, .unOp .not T x, ty, pos, af, gd⟩ tm σ [] (.bool (!b)) [] := (qW hx.st).strip
theorem cB {dst : Option Tmp} {T : TypeId} {x : Operand} {f : Nat} {te fe : TE} {fs : List (Nat × TypeId)} {o : Nat} {ft : TypeId} {cs : List OV} {y : OV} (hT : E.tab T = some te) (hk : te.k = .st fs) (hf : fs[f]? = some (o, ft)) (hF : E.tab ft = some fe) (ha : fe.k.isAgg = false) (hx : ev tm x = some (.ag cs)) (hy : cs[o]? = some y) (hcont : AO E.P v ops K (j + 1) rest (tm.putO dst y) (σ.apply [])) : AO E.P v ops K j (⟨dst, .field T x f, ty, pos, af, none⟩ :: rest) tm σ := uY (jK hT hk hf hF ha hx hy) hcont
theorem oU {dst : Option Tmp} {T : TypeId} {x : Operand} {f : Nat} {te fe : TE} {fs : List (Nat × TypeId)} {o : Nat} {ft : TypeId} {cs : List OV} {y : OV} (hT : E.tab T = some te) (hk : te.k = .st fs) (hf : fs[f]? = some (o, ft)) (hF : E.tab ft = some fe) (ha : fe.k.isAgg = false) (hx : ev tm x = some (.ag cs)) (hy : cs[o]? = some y) (hcont : DO E.P v ops KD (j + 1) rest (tm.putO dst y) (σ.apply []) (Foot.mk [] (wkeys []) :: acc)) : DO E.P v ops KD j (⟨dst, .field T x f, ty, pos, af, none⟩ :: rest) tm σ acc := vU (jK hT hk hf hF ha hx hy) hcont
theorem M_field1 {dst : Option Tmp} {gd : Option (Nat × Bool)} {T : TypeId} {x : Operand} {f : Nat} {te fe : TE} {fs : List (Nat × TypeId)} {o : Nat} {ft : TypeId} {cs : List OV} {y : OV} (hT : E.tab T = some te) (hk : te.k = .st fs) (hf : fs[f]? = some (o, ft)) (hF : E.tab ft = some fe) (ha : fe.k.isAgg = false) (hx : EvM tm x (.ag cs)) (hy : cs[o]? = some y) : YL E.P v j ⟨dst, .field T x f, ty, pos, af, gd⟩ tm σ [] y [] := (jK hT hk hf hF ha hx.st hy).strip
theorem oN {dst : Option Tmp} {T : TypeId} {x ix : Operand} {te ee : TE} {n : Nat} {e : TypeId} {cs : List OV} {y : OV} {k : IntKind} {i : Int} (hT : E.tab T = some te) (hk : te.k = .arr n e) (hE : E.tab e = some ee) (ha : ee.k.isAgg = false) (hx : ev tm x = some (.ag cs)) (hi : ev tm ix = some (.int k i)) (hin : 0 ≤ i ∧ i < n) (hy : cs[i.toNat * ee.size]? = some y) (hcont : AO E.P v ops K (j + 1) rest (tm.putO dst y) (σ.apply [])) : AO E.P v ops K j (⟨dst, .index T x ix, ty, pos, af, none⟩ :: rest) tm σ := uY (Y_index1 hT hk hE ha hx hi hin hy) hcont
theorem xK {dst : Option Tmp} {x : Operand} {ix : Nat} {cs : List OV} {y : OV} (hx : ev tm x = some (.tu cs)) (hy : cs[ix]? = some y) (hcont : AO E.P v ops K (j + 1) rest (tm.putO dst y) (σ.apply [])) : AO E.P v ops K j (⟨dst, .extract x ix, ty, pos, af, none⟩ :: rest) tm σ := uY (lI hx hy) hcont
theorem S_fieldAddr_pt {dst : Option Tmp} {T : TypeId} {x : Operand} {f : Nat} {te fe : TE} {fs : List (Nat × TypeId)} {o : Nat} {ft : TypeId} {row : List TV} {p : Nat} (hT : E.tab T = some te) (hk : te.k = .st fs) (hf : fs[f]? = some (o, ft)) (hF : E.tab ft = some fe) (hz : fe.size ≠ 0) (hx : ev tm x = some (.d (.pt row p))) (hcont : AO E.P v ops K (j + 1) rest (tm.putO dst (.d (.pt row (p + o)))) (σ.apply [])) : AO E.P v ops K j (⟨dst, .fieldAddr T x f, ty, pos, af, none⟩ :: rest) tm σ := uY (zO hT hk hf hF hz hx) hcont
theorem D_fieldAddr_pt {dst : Option Tmp} {T : TypeId} {x : Operand} {f : Nat} {te fe : TE} {fs : List (Nat × TypeId)} {o : Nat} {ft : TypeId} {row : List TV} {p : Nat} (hT : E.tab T = some te) (hk : te.k = .st fs) (hf : fs[f]? = some (o, ft)) (hF : E.tab ft = some fe) (hz : fe.size ≠ 0) (hx : ev tm x = some (.d (.pt row p))) (hcont : DO E.P v ops KD (j + 1) rest (tm.putO dst (.d (.pt row (p + o)))) (σ.apply []) (Foot.mk [] (wkeys []) :: acc)) : DO E.P v ops KD j (⟨dst, .fieldAddr T x f, ty, pos, af, none⟩ :: rest) tm σ acc := vU (zO hT hk hf hF hz hx) hcont
theorem M_fieldAddr_pt {dst : Option Tmp} {gd : Option (Nat × Bool)} {T : TypeId} {x : Operand} {f : Nat} {te fe : TE} {fs : List (Nat × TypeId)} {o : Nat} {ft : TypeId} {row : List TV} {p : Nat} (hT : E.tab T = some te) (hk : te.k = .st fs) (hf : fs[f]? = some (o, ft)) (hF : E.tab ft = some fe) (hz : fe.size ≠ 0) (hx : EvM tm x (.d (.pt row p))) : YL E.P v j ⟨dst, .fieldAddr T x f, ty, pos, af, gd⟩ tm σ [] (.d (.pt row (p + o))) [] := (zO hT hk hf hF hz hx.st).strip
theorem S_fieldAddr_lo {dst : Option Tmp} {T : TypeId} {x : Operand} {f : Nat} {te fe : TE} {fs : List (Nat × TypeId)} {o : Nat} {ft : TypeId} {k : Nat} {τ : Stamp} {s i p : Nat} (hT : E.tab T = some te) (hk : te.k = .st fs) (hf : fs[f]? = some (o, ft)) (hF : E.tab ft = some fe) (hz : fe.size ≠ 0) (hx : ev tm x = some (.lo k τ s i p)) (hcont : AO E.P v ops K (j + 1) rest (tm.putO dst (.lo k τ s i (p + o))) (σ.apply [])) : AO E.P v ops K j (⟨dst, .fieldAddr T x f, ty, pos, af, none⟩ :: rest) tm σ := uY (zP hT hk hf hF hz hx) hcont
theorem D_fieldAddr_lo {dst : Option Tmp} {T : TypeId} {x : Operand} {f : Nat} {te fe : TE} {fs : List (Nat × TypeId)} {o : Nat} {ft : TypeId} {k : Nat} {τ : Stamp} {s i p : Nat} (hT : E.tab T = some te) (hk : te.k = .st fs) (hf : fs[f]? = some (o, ft)) (hF : E.tab ft = some fe) (hz : fe.size ≠ 0) (hx : ev tm x = some (.lo k τ s i p)) (hcont : DO E.P v ops KD (j + 1) rest (tm.putO dst (.lo k τ s i (p + o))) (σ.apply []) (Foot.mk [] (wkeys []) :: acc)) : DO E.P v ops KD j (⟨dst, .fieldAddr T x f, ty, pos, af, none⟩ :: rest) tm σ acc := vU (zP hT hk hf hF hz hx) hcont
theorem M_fieldAddr_lo {dst : Option Tmp} {gd : Option (Nat × Bool)} {T : TypeId} {x : Operand} {f : Nat} {te fe : TE} {fs : List (Nat × TypeId)} {o : Nat} {ft : TypeId} {k : Nat} {τ : Stamp} {s i p : Nat} (hT : E.tab T = some te) (hk : te.k = .st fs) (hf : fs[f]? = some (o, ft)) (hF : E.tab ft = some fe) (hz : fe.size ≠ 0) (hx : EvM tm x (.lo k τ s i p)) : YL E.P v j ⟨dst, .fieldAddr T x f, ty, pos, af, gd⟩ tm σ [] (.lo k τ s i (p + o)) [] := (zP hT hk hf hF hz hx.st).strip
theorem S_indexAddr_sl {dst : Option Tmp} {T : TypeId} {x ix : Operand} {te ee : TE} {e : TypeId} {k : IntKind} {i : Int} {s : Nat} {rows : List (List TV)} {row : List TV} (hT : E.tab T = some te) (hk : te.k = .slice e) (hE : E.tab e = some ee) (hs : ee.size = s) (hx : ev tm x = some (.d (.sl s rows))) (hi : ev tm ix = some (.int k i)) (h0 : 0 ≤ i) (hr : rows[i.toNat]? = some row) (hcont : AO E.P v ops K (j + 1) rest (tm.putO dst (.d (.pt row 0))) (σ.apply [])) : AO E.P v ops K j (⟨dst, .indexAddr T x ix, ty, pos, af, none⟩ :: rest) tm σ := uY (zN hT hk hE hs hx hi h0 hr) hcont
theorem D_indexAddr_sl {dst : Option Tmp} {T : TypeId} {x ix : Operand} {te ee : TE} {e : TypeId} {k : IntKind} {i : Int} {s : Nat} {rows : List (List TV)} {row : List TV} (hT : E.tab T = some te) (hk : te.k = .slice e) (hE : E.tab e = some ee) (hs : ee.size = s) (hx : ev tm x = some (.d (.sl s rows))) (hi : ev tm ix = some (.int k i)) (h0 : 0 ≤ i) (hr : rows[i.toNat]? = some row) (hcont : DO E.P v ops KD (j + 1) rest (tm.putO dst (.d (.pt row 0))) (σ.apply []) (Foot.mk [] (wkeys []) :: acc)) : DO E.P v ops KD j (⟨dst, .indexAddr T x ix, ty, pos, af, none⟩ :: rest) tm σ acc := vU (zN hT hk hE hs hx hi h0 hr) hcont
theorem M_indexAddr_sl {dst : Option Tmp} {gd : Option (Nat × Bool)} {T : TypeId} {x ix : Operand} {te ee : TE} {e : TypeId} {k : IntKind} {i : Int} {s : Nat} {rows : List (List TV)} {row : List TV} (hT : E.tab T = some te) (hk : te.k = .slice e) (hE : E.tab e = some ee) (hs : ee.size = s) (hx : EvM tm x (.d (.sl s rows))) (hi : EvM tm ix (.int k i)) (h0 : 0 ≤ i) (hr : rows[i.toNat]? = some row) : YL E.P v j ⟨dst, .indexAddr T x ix, ty, pos, af, gd⟩ tm σ [] (.d (.pt row 0)) [] := (zN hT hk hE hs hx.st hi.st h0 hr).strip
theorem zQ {dst : Option Tmp} {T : TypeId} {x ix : Operand} {te ee : TE} {e : TypeId} {k : IntKind} {i : Int} {q s n : Nat} {τ : Stamp} (hT : E.tab T = some te) (hk : te.k = .slice e) (hE : E.tab e = some ee) (hs : ee.size = s) (hx : ev tm x = some (.os q τ s n)) (hi : ev tm ix = some (.int k i)) (hin : 0 ≤ i ∧ i < n) (hcont : AO E.P v ops K (j + 1) rest (tm.putO dst (.lo q τ s i.toNat 0)) (σ.apply [])) : AO E.P v ops K j (⟨dst, .indexAddr T x ix, ty, pos, af, none⟩ :: rest) tm σ := uY (cA hT hk hE hs hx hi hin) hcont
theorem M_indexAddr_os {dst : Option Tmp} {gd : Option (Nat × Bool)} {T : TypeId} {x ix : Operand} {te ee : TE} {e : TypeId} {k : IntKind} {i : Int} {q s n : Nat} {τ : Stamp} (hT : E.tab T = some te) (hk : te.k = .slice e) (hE : E.tab e = some ee) (hs : ee.size = s) (hx : EvM tm x (.os q τ s n)) (hi : EvM tm ix (.int k i)) (hin : 0 ≤ i ∧ i < n) : YL E.P v j ⟨dst, .indexAddr T x ix, ty, pos, af, gd⟩ tm σ [] (.lo q τ s i.toNat 0) [] := (cA hT hk hE hs hx.st hi.st hin).strip
theorem D_nilCheck {dst : Option Tmp} {x : Operand} {y : OV} (hy : (match y with | .lo .. => true | .d (.pt ..) => true | .fn .. => true | .d (.fn ..) => true | _ => false) = true) (hx : ev tm x = some y) (hcont : DO E.P v ops KD (j + 1) rest (tm.putO dst y) (σ.apply []) (Foot.mk [] (wkeys []) :: acc)) : DO E.P v ops KD j (⟨dst, .nilCheck x, ty, pos, af, none⟩ :: rest) tm σ acc := vU (Y_nilCheck hy hx) hcont
theorem S_load_pt {dst : Option Tmp} {T : TypeId} {x : Operand} {te : TE} {row : List TV} {p : Nat} {t : TV} (hT : E.tab T = some te) (ha : te.k.isAgg = false) (hx : ev tm x = some (.d (.pt row p))) (ht : row[p]? = some t) (hcont : AO E.P v ops K (j + 1) rest (tm.putO dst (.d t)) (σ.apply [])) : AO E.P v ops K j (⟨dst, .load T x, ty, pos, af, none⟩ :: rest) tm σ := uY (cQ hT ha hx ht) hcont
theorem D_load_pt {dst : Option Tmp} {T : TypeId} {x : Operand} {te : TE} {row : List TV} {p : Nat} {t : TV} (hT : E.tab T = some te) (ha : te.k.isAgg = false) (hx : ev tm x = some (.d (.pt row p))) (ht : row[p]? = some t) (hcont : DO E.P v ops KD (j + 1) rest (tm.putO dst (.d t)) (σ.apply []) (Foot.mk [] (wkeys []) :: acc)) : DO E.P v ops KD j (⟨dst, .load T x, ty, pos, af, none⟩ :: rest) tm σ acc := vU (cQ hT ha hx ht) hcont
theorem M_load_pt {dst : Option Tmp} {gd : Option (Nat × Bool)} {T : TypeId} {x : Operand} {te : TE} {row : List TV} {p : Nat} {t : TV} (hT : E.tab T = some te) (ha : te.k.isAgg = false) (hx : EvM tm x (.d (.pt row p))) (ht : row[p]? = some t) : YL E.P v j ⟨dst, .load T x, ty, pos, af, gd⟩ tm σ [] (.d t) [] := (cQ hT ha hx.st ht).strip
theorem S_load_ptA {dst : Option Tmp} {T : TypeId} {x : Operand} {te : TE} {row : List TV} {p : Nat} (hT : E.tab T = some te) (ha : te.k.isAgg = true) (hx : ev tm x = some (.d (.pt row p))) (hl : p + te.size ≤ row.length) (hcont : AO E.P v ops K (j + 1) rest (tm.putO dst (.ag (((row.drop p).take te.size).map .d))) (σ.apply [])) : AO E.P v ops K j (⟨dst, .load T x, ty, pos, af, none⟩ :: rest) tm σ := uY (aZ hT ha hx hl) hcont
theorem wC {dst : Option Tmp} {T : TypeId} {x : Operand} {te : TE} {row : List TV} {p : Nat} (hT : E.tab T = some te) (ha : te.k.isAgg = true) (hx : ev tm x = some (.d (.pt row p))) (hl : p + te.size ≤ row.length) (hcont : DO E.P v ops KD (j + 1) rest (tm.putO dst (.ag (((row.drop p).take te.size).map .d))) (σ.apply []) (Foot.mk [] (wkeys []) :: acc)) : DO E.P v ops KD j (⟨dst, .load T x, ty, pos, af, none⟩ :: rest) tm σ acc := vU (aZ hT ha hx hl) hcont
theorem M_load_ptA {dst : Option Tmp} {gd : Option (Nat × Bool)} {T : TypeId} {x : Operand} {te : TE} {row : List TV} {p : Nat} (hT : E.tab T = some te) (ha : te.k.isAgg = true) (hx : EvM tm x (.d (.pt row p))) (hl : p + te.size ≤ row.length) : YL E.P v j ⟨dst, .load T x, ty, pos, af, gd⟩ tm σ [] (.ag (((row.drop p).take te.size).map .d)) [] := (aZ hT ha hx.st hl).strip
theorem S_load_lo {dst : Option Tmp} {T : TypeId} {x : Operand} {te : TE} {k : Nat} {τ : Stamp} {s i p : Nat} {rows : List (List OV)} {row : List OV} {y : OV} (hT : E.tab T = some te) (ha : te.k.isAgg = false) (hx : ev tm x = some (.lo k τ s i p)) (hs : σ k = some (τ, ⟨s, rows⟩)) (hr : rows[i]? = some row) (hy : row[p]? = some y) (hcont : AO E.P v ops K (j + 1) rest (tm.putO dst y) (σ.apply [])) : AO E.P v ops K j (⟨dst, .load T x, ty, pos, af, none⟩ :: rest) tm σ := uY (fU hT ha hx hs hr hy) hcont
theorem wG {dst : Option Tmp} {T : TypeId} {x : Operand} {te : TE} {k : Nat} {τ : Stamp} {s i p : Nat} {rows : List (List OV)} {row : List OV} {y : OV} (hT : E.tab T = some te) (ha : te.k.isAgg = false) (hx : ev tm x = some (.lo k τ s i p)) (hs : σ k = some (τ, ⟨s, rows⟩)) (hr : rows[i]? = some row) (hy : row[p]? = some y) (hcont : DO E.P v ops KD (j + 1) rest (tm.putO dst y) (σ.apply []) (Foot.mk [k] (wkeys []) :: acc)) : DO E.P v ops KD j (⟨dst, .load T x, ty, pos, af, none⟩ :: rest) tm σ acc := vU (fU hT ha hx hs hr hy) hcont
theorem lJ {dst : Option Tmp} {gd : Option (Nat × Bool)} {T : TypeId} {x : Operand} {te : TE} {k : Nat} {τ : Stamp} {s i p : Nat} {rows : List (List OV)} {row : List OV} {y : OV} (hT : E.tab T = some te) (ha : te.k.isAgg = false) (hx : EvM tm x (.lo k τ s i p)) (hs : σ k = some (τ, ⟨s, rows⟩)) (hr : rows[i]? = some row) (hy : row[p]? = some y) : YL E.P v j ⟨dst, .load T x, ty, pos, af, gd⟩ tm σ [k] y [] := (fU hT ha hx.st hs hr hy).strip
theorem S_load_loA {dst : Option Tmp} {T : TypeId} {x : Operand} {te : TE} {k : Nat} {τ : Stamp} {s i p : Nat} {rows : List (List OV)} {row : List OV} (hT : E.tab T = some te) (ha : te.k.isAgg = true) (hx : ev tm x = some (.lo k τ s i p)) (hs : σ k = some (τ, ⟨s, rows⟩)) (hr : rows[i]? = some row) (hl : p + te.size ≤ row.length) (hcont : AO E.P v ops K (j + 1) rest (tm.putO dst (.ag ((row.drop p).take te.size))) (σ.apply [])) : AO E.P v ops K j (⟨dst, .load T x, ty, pos, af, none⟩ :: rest) tm σ := uY (dL hT ha hx hs hr hl) hcont
theorem D_load_loA {dst : Option Tmp} {T : TypeId} {x : Operand} {te : TE} {k : Nat} {τ : Stamp} {s i p : Nat} {rows : List (List OV)} {row : List OV} (hT : E.tab T = some te) (ha : te.k.isAgg = true) (hx : ev tm x = some (.lo k τ s i p)) (hs : σ k = some (τ, ⟨s, rows⟩)) (hr : rows[i]? = some row) (hl : p + te.size ≤ row.length) (hcont : DO E.P v ops KD (j + 1) rest (tm.putO dst (.ag ((row.drop p).take te.size))) (σ.apply []) (Foot.mk [k] (wkeys []) :: acc)) : DO E.P v ops KD j (⟨dst, .load T x, ty, pos, af, none⟩ :: rest) tm σ acc := vU (dL hT ha hx hs hr hl) hcont
theorem M_load_loA {dst : Option Tmp} {gd : Option (Nat × Bool)} {T : TypeId} {x : Operand} {te : TE} {k : Nat} {τ : Stamp} {s i p : Nat} {rows : List (List OV)} {row : List OV} (hT : E.tab T = some te) (ha : te.k.isAgg = true) (hx : EvM tm x (.lo k τ s i p)) (hs : σ k = some (τ, ⟨s, rows⟩)) (hr : rows[i]? = some row) (hl : p + te.size ≤ row.length) : YL E.P v j ⟨dst, .load T x, ty, pos, af, gd⟩ tm σ [k] (.ag ((row.drop p).take te.size)) [] := (dL hT ha hx.st hs hr hl).strip
theorem vQ {d : Nat} {T : TypeId} {te : TE} (hT : E.tab T = some te) (hcont : AO E.P v ops K (j + 1) rest (tm.putO (some d) (.lo d (v, j) te.size 0 0)) (σ.apply [(d, some ((v, j), ⟨te.size, [consts te.zero]⟩))])) : AO E.P v ops K j (⟨some d, .alloc T, ty, pos, af, none⟩ :: rest) tm σ := uY (qD hT) hcont
theorem mL {d : Nat} {T : TypeId} {te : TE} (hT : E.tab T = some te) (hcont : DO E.P v ops KD (j + 1) rest (tm.putO (some d) (.lo d (v, j) te.size 0 0)) (σ.apply [(d, some ((v, j), ⟨te.size, [consts te.zero]⟩))]) (Foot.mk [] (wkeys [(d, some ((v, j), ⟨te.size, [consts te.zero]⟩))]) :: acc)) : DO E.P v ops KD j (⟨some d, .alloc T, ty, pos, af, none⟩ :: rest) tm σ acc := vU (qD hT) hcont
theorem S_box {d : Nat} {T : TypeId} {x : Operand} {y : OV} {n : Nat} (hx : ev tm x = some y) (hw' : y.wide = true) (hn : y.cells.length = n) (hcont : AO E.P v ops K (j + 1) rest (tm.putO (some d) (.lo d (v, j) n 0 0)) (σ.apply [(d, some ((v, j), ⟨n, [y.cells]⟩))])) : AO E.P v ops K j (⟨some d, .box T x, ty, pos, af, none⟩ :: rest) tm σ := uY (rT hx hw' hn) hcont
theorem S_build {d : Option Nat} {T : TypeId} {parts : List (Nat × Operand)} {te : TE} {fs : List (Nat × TypeId)} {ys : List (Nat × OV)} {cs : List OV} (hT : E.tab T = some te) (hk : te.k = .st fs) (hfs : (fs.all fun f => (E.tab f.2).isSome) = true) (hp : evParts tm parts = some ys) (hc : fillO (fun i => (fs[i]?).map fun f : Nat × TypeId => (f.1, sizeT E f.2)) (consts te.zero) ys = some cs) (hcont : AO E.P v ops K (j + 1) rest (tm.putO d (.ag cs)) (σ.apply [])) : AO E.P v ops K j (⟨d, .build T parts.toArray, ty, pos, af, none⟩ :: rest) tm σ := uY (mH hT hk hfs hp hc) hcont
theorem gW {d : Option Nat} {T : TypeId} {parts : List (Nat × Operand)} {te : TE} {fs : List (Nat × TypeId)} {ys : List (Nat × OV)} {cs : List OV} (hT : E.tab T = some te) (hk : te.k = .st fs) (hfs : (fs.all fun f => (E.tab f.2).isSome) = true) (hp : evParts tm parts = some ys) (hc : fillO (fun i => (fs[i]?).map fun f : Nat × TypeId => (f.1, sizeT E f.2)) (consts te.zero) ys = some cs) (hcont : DO E.P v ops KD (j + 1) rest (tm.putO d (.ag cs)) (σ.apply []) (Foot.mk [] (wkeys []) :: acc)) : DO E.P v ops KD j (⟨d, .build T parts.toArray, ty, pos, af, none⟩ :: rest) tm σ acc := vU (mH hT hk hfs hp hc) hcont
theorem S_buildA {d : Option Nat} {T : TypeId} {parts : List (Nat × Operand)} {te ee : TE} {n : Nat} {e : TypeId} {ys : List (Nat × OV)} {cs : List OV} (hT : E.tab T = some te) (hk : te.k = .arr n e) (hE : E.tab e = some ee) (hp : evParts tm parts = some ys) (hc : fillO (fun i => some (i * ee.size, ee.size)) (consts te.zero) ys = some cs) (hcont : AO E.P v ops K (j + 1) rest (tm.putO d (.ag cs)) (σ.apply [])) : AO E.P v ops K j (⟨d, .build T parts.toArray, ty, pos, af, none⟩ :: rest) tm σ := uY (Y_buildA hT hk hE hp hc) hcont
theorem wV {d : Nat} {T : TypeId} {n : Nat} {parts : List (Nat × Operand)} {te ee : TE} {e : TypeId} {ys : List (Nat × OV)} {cs : List OV} (hT : E.tab T = some te) (hk : te.k = .slice e) (hE : E.tab e = some ee) (hpos : 0 < ee.size) (hn : n * ee.size ≤ 16777216) (hn' : n ≤ maxLen) (hp : evParts tm parts = some ys) (hc : fillO (fun i => some (i * ee.size, ee.size)) ((List.replicate n (consts ee.zero)).flatten) ys = some cs) (hcont : AO E.P v ops K (j + 1) rest (tm.putO (some d) (.os d (v, j) ee.size n)) (σ.apply [(d, some ((v, j), ⟨ee.size, chop ee.size n cs⟩))])) : AO E.P v ops K j (⟨some d, .buildSlice T n parts.toArray, ty, pos, af, none⟩ :: rest) tm σ := uY (zB hT hk hE hpos hn hn' hp hc) hcont
theorem D_buildSlice {d : Nat} {T : TypeId} {n : Nat} {parts : List (Nat × Operand)} {te ee : TE} {e : TypeId} {ys : List (Nat × OV)} {cs : List OV} (hT : E.tab T = some te) (hk : te.k = .slice e) (hE : E.tab e = some ee) (hpos : 0 < ee.size) (hn : n * ee.size ≤ 16777216) (hn' : n ≤ maxLen) (hp : evParts tm parts = some ys) (hc : fillO (fun i => some (i * ee.size, ee.size)) ((List.replicate n (consts ee.zero)).flatten) ys = some cs) (hcont : DO E.P v ops KD (j + 1) rest (tm.putO (some d) (.os d (v, j) ee.size n)) (σ.apply [(d, some ((v, j), ⟨ee.size, chop ee.size n cs⟩))]) (Foot.mk [] (wkeys [(d, some ((v, j), ⟨ee.size, chop ee.size n cs⟩))]) :: acc)) : DO E.P v ops KD j (⟨some d, .buildSlice T n parts.toArray, ty, pos, af, none⟩ :: rest) tm σ acc := vU (zB hT hk hE hpos hn hn' hp hc) hcont
theorem S_store {d : Option Nat} {T : TypeId} {x z : Operand} {te : TE} {k : Nat} {τ : Stamp} {s i p : Nat} {rows : List (List OV)} {row : List OV} {y : OV} (hT : E.tab T = some te) (hx : ev tm x = some (.lo k τ s i p)) (hz : ev tm z = some y) (hw' : y.wide = true) (hn : y.cells.length = te.size) (hs : σ k = some (τ, ⟨s, rows⟩)) (hr : rows[i]? = some row) (hp : p + te.size ≤ row.length) (hcont : AO E.P v ops K (j + 1) rest (tm.putO d .un) (σ.apply [(k, some (τ, ⟨s, rows.set i (setAt row p y.cells)⟩))])) : AO E.P v ops K j (⟨d, .store T x z, ty, pos, af, none⟩ :: rest) tm σ := uY (mG hT hx hz hw' hn hs hr hp) hcont
theorem bB {d : Option Nat} {T : TypeId} {x z : Operand} {te : TE} {k : Nat} {τ : Stamp} {s i p : Nat} {rows : List (List OV)} {row : List OV} {y : OV} (hT : E.tab T = some te) (hx : ev tm x = some (.lo k τ s i p)) (hz : ev tm z = some y) (hw' : y.wide = true) (hn : y.cells.length = te.size) (hs : σ k = some (τ, ⟨s, rows⟩)) (hr : rows[i]? = some row) (hp : p + te.size ≤ row.length) (hcont : DO E.P v ops KD (j + 1) rest (tm.putO d .un) (σ.apply [(k, some (τ, ⟨s, rows.set i (setAt row p y.cells)⟩))]) (Foot.mk [k] (wkeys [(k, some (τ, ⟨s, rows.set i (setAt row p y.cells)⟩))]) :: acc)) : DO E.P v ops KD j (⟨d, .store T x z, ty, pos, af, none⟩ :: rest) tm σ acc := vU (mG hT hx hz hw' hn hs hr hp) hcont
theorem jM {d : Option Nat} {T e : TypeId} {te ee : TE} {x : Operand} {lo hi : Option Operand} {s l h : Nat} {rows : List (List TV)} (hT : E.tab T = some te) (hk : te.k = .slice e) (hE : E.tab e = some ee) (hs : ee.size = s) (hx : ev tm x = some (.d (.sl s rows))) (hlo : Bnd tm lo 0 l) (hhi : Bnd tm hi rows.length h) (h1 : l ≤ h) (h2 : h ≤ rows.length) (hcont : AO E.P v ops K (j + 1) rest (tm.putO d (.d (.sl s ((rows.drop l).take (h - l))))) (σ.apply [])) : AO E.P v ops K j (⟨d, .slice T x lo hi none, ty, pos, af, none⟩ :: rest) tm σ := uY (Y_slice_sl hT hk hE hs hx hlo hhi h1 h2) hcont
theorem jN {d : Option Nat} {T e : TypeId} {te ee : TE} {x : Operand} {lo hi : Option Operand} {k s n l h : Nat} {τ : Stamp} (hT : E.tab T = some te) (hk : te.k = .slice e) (hE : E.tab e = some ee) (hs : ee.size = s) (hx : ev tm x = some (.os k τ s n)) (hlo : Bnd tm lo 0 l) (hhi : Bnd tm hi n h) (h1 : l ≤ h) (h2 : h ≤ n) (hcont : AO E.P v ops K (j + 1) rest (tm.putO d (.vw k τ s l (h - l))) (σ.apply [])) : AO E.P v ops K j (⟨d, .slice T x lo hi none, ty, pos, af, none⟩ :: rest) tm σ := uY (Y_slice_os hT hk hE hs hx hlo hhi h1 h2) hcont
theorem S_len {d : Option Nat} {T e : TypeId} {te : TE} {x : Operand} {y : OV} {n : Nat} (hT : E.tab T = some te) (hk : te.k = .slice e) (hx : ev tm x = some y) (hn : ∀ (G : Gh) (u : Value), RepO G y u → ∃ a c, u = .slice a n c) (hcont : AO E.P v ops K (j + 1) rest (tm.putO d (.int .i64 n)) (σ.apply [])) : AO E.P v ops K j (⟨d, .call { callee := .builtin .len, args := #[x], argTypes := #[T] }, ty, pos, af, none⟩ :: rest) tm σ := uY (rA hT hk hx hn) hcont
theorem D_len {d : Option Nat} {T e : TypeId} {te : TE} {x : Operand} {y : OV} {n : Nat} (hT : E.tab T = some te) (hk : te.k = .slice e) (hx : ev tm x = some y) (hn : ∀ (G : Gh) (u : Value), RepO G y u → ∃ a c, u = .slice a n c) (hcont : DO E.P v ops KD (j + 1) rest (tm.putO d (.int .i64 n)) (σ.apply []) (Foot.mk [] (wkeys []) :: acc)) : DO E.P v ops KD j (⟨d, .call { callee := .builtin .len, args := #[x], argTypes := #[T] }, ty, pos, af, none⟩ :: rest) tm σ acc := vU (rA hT hk hx hn) hcont
theorem M_len {gd : Option (Nat × Bool)} {d : Option Nat} {T e : TypeId} {te : TE} {x : Operand} {y : OV} {n : Nat} (hT : E.tab T = some te) (hk : te.k = .slice e) (hx : EvM tm x y) (hn : ∀ (G : Gh) (u : Value), RepO G y u → ∃ a c, u = .slice a n c) : YL E.P v j ⟨d, .call { callee := .builtin .len, args := #[x], argTypes := #[T] }, ty, pos, af, gd⟩ tm σ [] (.int .i64 n) [] := (rA hT hk hx.st hn).strip
theorem S_min {d : Option Nat} {T T' : TypeId} {x y : Operand} {k : IntKind} {a b : Int} (hx : ev tm x = some (.int k a)) (hy : ev tm y = some (.int k b)) (hcont : AO E.P v ops K (j + 1) rest (tm.putO d (.int k (if b < a then b else a))) (σ.apply [])) : AO E.P v ops K j (⟨d, .call { callee := .builtin .min, args := #[x, y], argTypes := #[T, T'] }, ty, pos, af, none⟩ :: rest) tm σ := uY (rR hx hy) hcont
theorem M_min {gd : Option (Nat × Bool)} {d : Option Nat} {T T' : TypeId} {x y : Operand} {k : IntKind} {a b : Int} (hx : EvM tm x (.int k a)) (hy : EvM tm y (.int k b)) : YL E.P v j ⟨d, .call { callee := .builtin .min, args := #[x, y], argTypes := #[T, T'] }, ty, pos, af, gd⟩ tm σ [] (.int k (if b < a then b else a)) [] := (rR hx.st hy.st).strip
theorem wE {d : Option Nat} {f : FuncId} {fi ca : List Operand} {fs cs : List OV} (h1 : evs tm fi = some fs) (h2 : evs tm ca = some cs) (hcont : AO E.P v ops K (j + 1) rest (tm.putO d (.fn f fs cs)) (σ.apply [])) : AO E.P v ops K j (⟨d, .makeFunc (.func f) fi.toArray ca.toArray, ty, pos, af, none⟩ :: rest) tm σ := uY (jJ h1 h2) hcont
theorem S_append {d : Nat} {T e : TypeId} {te ee : TE} {x z : Operand} {s k : Nat} {y1 y2 : OV} {ks1 ks2 : List Nat} {rows1 rows2 : List (List OV)} (hT : E.tab T = some te) (hk : te.k = .slice e) (hE : E.tab e = some ee) (hs : ee.size = s) (hpos : 0 < s) (hx : ev tm x = some y1) (hz : ev tm z = some y2) (h1 : Dst σ s d y1 ks1 k rows1) (h2 : Src σ s y2 ks2 rows2) (hlf : ∀ r ∈ rows2, ∀ y ∈ r, y.leaf = true) (hb : (rows1.length + rows2.length) * ee.bytes ≤ 140737488355328) (hm : rows1.length + rows2.length ≤ maxLen) (hcont : AO E.P v ops K (j + 1) rest (tm.putO (some d) (.os k (v, j) s (rows1.length + rows2.length))) (σ.apply [(k, some ((v, j), ⟨s, rows1 ++ rows2⟩))])) : AO E.P v ops K j (⟨some d, .call { callee := .builtin .append, args := #[x, z], argTypes := #[T, T] }, ty, pos, af, none⟩ :: rest) tm σ := uY (eW hT hk hE hs hpos hx hz h1 h2 hlf hb hm) hcont
theorem D_append {d : Nat} {T e : TypeId} {te ee : TE} {x z : Operand} {s k : Nat} {y1 y2 : OV} {ks1 ks2 : List Nat} {rows1 rows2 : List (List OV)} (hT : E.tab T = some te) (hk : te.k = .slice e) (hE : E.tab e = some ee) (hs : ee.size = s) (hpos : 0 < s) (hx : ev tm x = some y1) (hz : ev tm z = some y2) (h1 : Dst σ s d y1 ks1 k rows1) (h2 : Src σ s y2 ks2 rows2) (hlf : ∀ r ∈ rows2, ∀ y ∈ r, y.leaf = true) (hb : (rows1.length + rows2.length) * ee.bytes ≤ 140737488355328) (hm : rows1.length + rows2.length ≤ maxLen) (hcont : DO E.P v ops KD (j + 1) rest (tm.putO (some d) (.os k (v, j) s (rows1.length + rows2.length))) (σ.apply [(k, some ((v, j), ⟨s, rows1 ++ rows2⟩))]) (Foot.mk (ks1 ++ ks2) (wkeys [(k, some ((v, j), ⟨s, rows1 ++ rows2⟩))]) :: acc)) : DO E.P v ops KD j (⟨some d, .call { callee := .builtin .append, args := #[x, z], argTypes := #[T, T] }, ty, pos, af, none⟩ :: rest) tm σ acc := vU (eW hT hk hE hs hpos hx hz h1 h2 hlf hb hm) hcont
theorem uQ {dst : Option Tmp} {x : Operand} {xs : List Operand} {tys : Array TypeId} {y : OV} {f : FuncId} {fi ca ys : List OV} {r : OV} (hx : ev tm x = some y) (hf : IsFn y f fi ca) (ha : evs tm xs = some ys) (hc : Pure E.P f (fi ++ ys ++ ca) r) (hcont : AO E.P v ops K (j + 1) rest (tm.putO dst r) (σ.apply [])) : AO E.P v ops K j (⟨dst, .call { callee := .value x, args := xs.toArray, argTypes := tys }, ty, pos, af, none⟩ :: rest) tm σ := uY (pC hx hf ha hc) hcont
theorem xG {dst : Option Tmp} {x : Operand} {xs : List Operand} {tys : Array TypeId} {y : OV} {f : FuncId} {fi ca ys : List OV} {r : OV} (hx : ev tm x = some y) (hf : IsFn y f fi ca) (ha : evs tm xs = some ys) (hc : Pure E.P f (fi ++ ys ++ ca) r) (hcont : DO E.P v ops KD (j + 1) rest (tm.putO dst r) (σ.apply []) (Foot.mk [] (wkeys []) :: acc)) : DO E.P v ops KD j (⟨dst, .call { callee := .value x, args := xs.toArray, argTypes := tys }, ty, pos, af, none⟩ :: rest) tm σ acc := vU (pC hx hf ha hc) hcont
theorem vK {dst : Option Tmp} {gd : Option (Nat × Bool)} {x : Operand} {xs : List Operand} {tys : Array TypeId} {y : OV} {f : FuncId} {fi ca ys : List OV} {r : OV} (hx : EvM tm x y) (hf : IsFn y f fi ca) (ha : EvsM tm xs ys) (hc : Pure E.P f (fi ++ ys ++ ca) r) : YL E.P v j ⟨dst, .call { callee := .value x, args := xs.toArray, argTypes := tys }, ty, pos, af, gd⟩ tm σ [] r [] := (pC hx.st hf ha.st hc).strip
theorem eX {d : Nat} {x : Operand} {xs : List Operand} {tys : Array TypeId} {y : OV} {f : FuncId} {fi ca ys : List OV} {s : Nat} {rows : List (List OV)} (hx : ev tm x = some y) (hf : IsFn y f fi ca) (ha : evs tm xs = some ys) (hc : Own E.P f (fi ++ ys ++ ca) s rows) (hcont : AO E.P v ops K (j + 1) rest (tm.putO (some d) (.os d (v, j) s rows.length)) (σ.apply [(d, some ((v, j), ⟨s, rows⟩))])) : AO E.P v ops K j (⟨some d, .call { callee := .value x, args := xs.toArray, argTypes := tys }, ty, pos, af, none⟩ :: rest) tm σ := uY (qV hx hf ha hc) hcont
end
structure Stuck (p : Prop) : Prop where
 out : p
def LeafR (rows : List (List OV)) : Prop := ∀ r ∈ rows, ∀ y ∈ r, y.leaf = true
theorem LeafR.d (rows : List (List TV)) : LeafR (rows.map fun r => r.map .d) := fun r hr y hy => by
 obtain ⟨r', _, rfl⟩ := List.mem_map.1 hr
 obtain ⟨t, _, rfl⟩ := List.mem_map.1 hy
 rfl
theorem LeafR.take {rows : List (List OV)} (n : Nat) (h : LeafR rows) : LeafR (rows.take n) := fun r hr => h r (List.mem_of_mem_take hr)
theorem LeafR.drop {rows : List (List OV)} (n : Nat) (h : LeafR rows) : LeafR (rows.drop n) := fun r hr => h r (List.mem_of_mem_drop hr)
theorem LeafR.lit {rows : List (List OV)} (h : rows.all (fun r => r.all OV.leaf) = true) : LeafR rows := fun r hr y hy => List.all_eq_true.1 (List.all_eq_true.1 h r hr) y hy
theorem LeafR.nil : LeafR [] := fun r hr => by cases hr
theorem LeafR.one {y : OV} (h : y.leaf = true) : LeafR [[y]] := fun r hr z hz => by
 simp only [List.mem_singleton] at hr; subst hr
 simp only [List.mem_singleton] at hz; subst hz
 exact h
theorem LeafR.map {α : Type} {f : α → List OV} (l : List α) (h : ∀ a, ∀ y ∈ f a, y.leaf = true) : LeafR (l.map f) := fun r hr => by
 obtain ⟨a, _, rfl⟩ := List.mem_map.1 hr
 exact h a
def cellO (k : IntKind) (a : Int) : List OV := [.int k a]
theorem LeafR.cells (k : IntKind) (l : List Int) : LeafR (l.map (cellO k)) := LeafR.map l fun a y hy => by
 simp only [cellO, List.mem_singleton] at hy; subst hy; rfl
theorem vD {d k s n m : Nat} {τ : Stamp} {l : List (Nat × OV)} {tm : Tm} (h : tm d = some (.os k τ s m)) (e : m = n) (hl : (tmL l).le tm) : (tmL ((d, .os k τ s n) :: l)).le tm := uP (by rw [h, e]) hl
theorem vA {d : Nat} {k : IntKind} {a b : Int} {l : List (Nat × OV)} {tm : Tm} (h : tm d = some (.int k a)) (e : a = b) (hl : (tmL l).le tm) : (tmL ((d, .int k b) :: l)).le tm := uP (by rw [h, e]) hl
theorem vG {d s : Nat} {τ : Stamp} {rows rows' : List (List OV)} {l : List (Nat × (Stamp × Row))} {σ : Store} (h : σ d = some (τ, ⟨s, rows⟩)) (e : rows = rows') (hl : (stL l).le σ) : (stL ((d, (τ, ⟨s, rows'⟩)) :: l)).le σ := vN (by rw [h, e]) hl
theorem wY {t d s : Nat} {τ : Stamp} {n : Nat} {rows rows' : List (List OV)} {tm : Tm} {σ : Store} (h : tm t = some (.os d τ s n)) (hs : σ d = some (τ, ⟨s, rows⟩)) (e : rows = rows') (hn : n = rows.length) : Done t (IsOwn s rows') .ret tm σ := by
 subst e; subst hn
 exact fJ h ⟨d, τ, rfl, hs⟩
theorem vI {X : Type} {T : X → Tm} {S : X → Store} {I : X → Prop} {μ : X → Nat} {m : Nat} {tm : Tm} {σ : Store} (y : X) (hI : I y) (hμ : μ y < m) (ht : (T y).le tm) (hs : (S y).le σ) : ∃ y, I y ∧ μ y < m ∧ (T y).le tm ∧ (S y).le σ := ⟨y, hI, hμ, ht, hs⟩
theorem WRel.del {Γ : Ctx} {G : Gh} {σ : Store} {w : World} (h : WRel Γ G σ w) (k : Nat) : WRel Γ G (σ.del k) w := h.forget fun j y hj => by
 unfold Store.del at hj
 cases hb : Nat.beq j k with
 | true => rw [hb] at hj; cases hj
 | false => rw [hb] at hj; exact hj
theorem WRel.rename {Γ : Ctx} {G : Gh} {σ : Store} {w : World} (h : WRel Γ G σ w) {k d v j : Nat} {τ : Stamp} {r : Row} (hk : σ k = some (τ, r)) (hv : Γ.N ≤ v) (hf : G.μ d (v, j) = none) :
  ∃ β, G.μ k τ = some β ∧ WRel Γ (G.name d (v, j) β) ((σ.del k).put d ((v, j), r)) w := by
 rcases h.own k τ r hk with ⟨h1, h2⟩ | ⟨β, h1, h2, h3, h4⟩
 ·refine ⟨none, h1, ?_⟩
  obtain ⟨s, rows⟩ := r
  simp only at h2
  subst h2
  exact (h.del k).phantom d hv hf s
 ·refine ⟨some β, h1, (h.del k).named hv hf (Nat.le_refl _) rfl rfl rfl (fun _ _ _ => rfl) h2 h3 h4 ?_⟩
  intro k' τ' r' β' hne hk' hμ' e
  have hkk : k' ≠ k := fun e' => by subst e'; simp [Store.del] at hk'
  have hk2 : σ k' = some (τ', r') := by
   unfold Store.del at hk'
   cases hb : Nat.beq k' k with
   | true => exact (hkk (Nat.eq_of_beq_eq_true hb)).elim
   | false => rw [hb] at hk'; exact hk'
  exact hkk (h.inj k' k τ' τ β' β r' r hk2 hk hμ' h1 e)
section
variable {E : Env} {v j : Nat} {ops : Array Oper} {K : Tm → Store → Prop} {KD : List Foot → Tm → Store → Prop} {acc : List Foot} {rest : List Oper} {tm : Tm} {σ : Store} {ty : TypeId} {pos : String} {af : Array Edge} {gd : Option (Nat × Bool)}
theorem Y_nilA {d : Nat} {e : TypeId} {te ee : TE} {s : Nat} (hT : E.tab ty = some te) (hk : te.k = .slice e) (hE : E.tab e = some ee) (hs : ee.size = s) :
  YL E.P v j ⟨some d, .assign (.const (.slice none 0 0)), ty, pos, af, gd⟩ tm σ [] (.os d (v, j) s 0) [(d, some ((v, j), ⟨s, []⟩))] := fun σ _ Γ G ρ w hv hfr hρ hw => by
 have hr := hρ (.const (.slice none 0 0)) (by simp [Op.operands]) (.d (.c (.slice none 0 0))) (by rfl)
 have h1 := vZ hr
 have h2 : (execOp ρ ⟨some d, .assign (.const (.slice none 0 0)), ty, pos, af, gd⟩).run E.P w = .ok (.value (.slice none 0 0)) w := by
  simp [execOp, h1]
 rw [h2]
 refine ⟨_, Gh.name_le G none (hfr d), ?_, ?_, hw.phantom d hv (hfr d) s⟩
 ·intro k' v' i hv' hi
  exact xD G d v j _ k' v' i hv' hi
 ·rw [RepO]
  exact Or.inr ⟨Gh.name_self _ _ _ _, rfl, rfl⟩
theorem S_nilA {d : Nat} {e : TypeId} {te ee : TE} {s : Nat} (hT : E.tab ty = some te) (hk : te.k = .slice e) (hE : E.tab e = some ee) (hs : ee.size = s)
  (hcont : AO E.P v ops K (j + 1) rest (tm.putO (some d) (.os d (v, j) s 0)) (σ.apply [(d, some ((v, j), ⟨s, []⟩))])) : AO E.P v ops K j (⟨some d, .assign (.const (.slice none 0 0)), ty, pos, af, none⟩ :: rest) tm σ := uY (Y_nilA hT hk hE hs) hcont
theorem Y_ren {d k n s : Nat} {τ : Stamp} {x : Operand} {rows : List (List OV)} (hx : ev tm x = some (.os k τ s n)) (hs : σ k = some (τ, ⟨s, rows⟩)) :
  YL E.P v j ⟨some d, .assign x, ty, pos, af, gd⟩ tm σ [k] (.os d (v, j) s n) [(k, none), (d, some ((v, j), ⟨s, rows⟩))] := fun σ' hσ Γ G ρ w hv hfr hρ hw => by
 have hs' : σ' k = some (τ, ⟨s, rows⟩) := by rw [hσ k (by simp)]; exact hs
 have hr := hρ x (by simp [Op.operands]) _ hx
 have h2 : (execOp ρ ⟨some d, .assign x, ty, pos, af, gd⟩).run E.P w = .ok (.value (ρ x)) w := by
  simp [execOp]
 rw [h2]
 obtain ⟨β, h1, h3⟩ := hw.rename hs' hv (hfr d)
 refine ⟨_, Gh.name_le G β (hfr d), ?_, ?_, h3⟩
 ·intro k' v' i hv' hi
  exact xD G d v j _ k' v' i hv' hi
 ·rw [RepO] at hr ⊢
  rcases hr with ⟨β', c, g1, g2, g3, g4, g5⟩ | ⟨g1, g2, g3⟩
  ·rw [h1] at g1; cases g1
   exact Or.inl ⟨β', c, Gh.name_self _ _ _ _, g2, g3, g4, g5⟩
  ·rw [h1] at g1; cases g1
   exact Or.inr ⟨Gh.name_self _ _ _ _, g2, g3⟩
theorem xU {d k n s : Nat} {τ : Stamp} {x : Operand} {rows : List (List OV)} (hx : ev tm x = some (.os k τ s n)) (hs : σ k = some (τ, ⟨s, rows⟩))
  (hcont : AO E.P v ops K (j + 1) rest (tm.putO (some d) (.os d (v, j) s n)) (σ.apply [(k, none), (d, some ((v, j), ⟨s, rows⟩))])) : AO E.P v ops K j (⟨some d, .assign x, ty, pos, af, none⟩ :: rest) tm σ := uY (Y_ren hx hs) hcont
end
theorem nrm : (∀ b : Bool, ((!b) = true) = (b = false)) ∧ (∀ b : Bool, ((!b) = false) = (b = true)) ∧ (∀ a b : Bool, ((a || b) = true) = (a = true ∨ b = true)) ∧ (∀ a b : Bool, ((a && b) = true) = (a = true ∧ b = true)) ∧
  (∀ a b : Bool, ((a || b) = false) = (a = false ∧ b = false)) ∧ (∀ a b : Bool, ((a && b) = false) = (a = false ∨ b = false)) ∧ (∀ (p : Prop) [Decidable p], (decide p = true) = p) ∧ (∀ (p : Prop) [Decidable p], (decide p = false) = ¬ p) ∧
  (∀ (p : Prop) [Decidable p], (¬¬ p) = p) ∧ (∀ a b : Int, (¬ a < b) = (b ≤ a)) ∧ (∀ a b : Int, (¬ a ≤ b) = (b < a)) ∧ ((!true) = false) ∧ ((!false) = true) ∧ (∀ b : Bool, (true && b) = b) ∧ (∀ b : Bool, (b && true) = b) ∧ (∀ b : Bool, (false || b) = b) ∧ (∀ b : Bool, (b || false) = b) ∧
  (∀ b : Bool, (true || b) = true) ∧ (∀ b : Bool, (false && b) = false) ∧ (∀ (α : Type) [BEq α] [LawfulBEq α] (a b : α), ((a != b) = false) = (a = b)) ∧ (∀ (α : Type) [BEq α] [LawfulBEq α] (a b : α), ((a != b) = true) = (a ≠ b)) ∧ (∀ (α : Type) [BEq α] [LawfulBEq α] (a b : α), ((a == b) = true) = (a = b)) ∧
  (∀ (α : Type) [BEq α] [LawfulBEq α] (a b : α), ((a == b) = false) = (a ≠ b)) ∧ (∀ (p q : Prop) [Decidable p] [Decidable q], (decide p = decide q) = (p ↔ q)) := by
 refine ⟨fun b => by simp, fun b => by simp, fun a b => by simp, fun a b => by simp, fun a b => by simp, fun a b => by cases a <;> cases b <;> simp, fun p _ => by simp, fun p _ => by simp, fun p _ => by simp, fun a b => by simp, fun a b => by simp, rfl, rfl, fun b => by simp, fun b => by simp, fun b => by simp, fun b => by simp, fun b => by simp, fun b => by simp, fun α _ _ a b => by simp, fun α _ _ a b => by simp, fun α _ _ a b => by simp, fun α _ _ a b => by simp, fun p q _ _ => by simp⟩
theorem fnA {P : Program} {f : FuncId} {fn : Func} {c : Code} {n t : Nat} {args : List OV} {R : OV → Store → Prop} (hf : P.funcs[f]? = some fn) (hn : fn.ntmps = n) (h : awp P n c (Done t R) (Tm.ini args) Store.nil) (hname : (fn.name == "runtime.NumGoroutine") = false := by decide) (hb : fn.body = some c := by exact rfl) (hl : args.length ≤ n := by exact Nat.le_of_ble_eq_true rfl) (hr : fn.results = #[.tmp t] := by exact rfl) : FnR P f args R := fn_of_awp hf hname hb hn hl hr h
theorem evm {tm : Tm} {x : Operand} {y : OV} (h : EvM tm x y := by (first | (refine EvM.mb _ rfl ?_; first | assumption | exact rfl) | exact EvM.plain rfl rfl)) : EvM tm x y := h
theorem wD {p : Prop} (h : p := by repeat' (first | exact EvsM.nil | (apply EvsM.cons; first | (refine EvM.mb _ rfl ?_; first | assumption | exact rfl) | exact EvM.plain rfl rfl))) : p := h
section
variable {P : Program} {v n j g id : Nat} {ops : Array Oper} {Q : Exit → Tm → Store → Prop} {K : Tm → Store → Prop} {KD : List Foot → Tm → Store → Prop} {acc : List Foot} {rest : List Oper} {tm : Tm} {σ : Store} {ty : TypeId} {pos : String} {af : Array Edge} {dst : Option Tmp} {op : Op} {d : Nat} {b : Bool} {ks : List Nat} {r : OV}
theorem spT (h0 : ((ops[g]?).bind (·.dst)).bind tm = some (.bool b)) (hy : b = true → YL P v j ⟨dst, op, ty, pos, af, some (g, true)⟩ tm σ ks r []) (h : AO P v ops K (j + 1) rest (tm.putO dst (.mb b r)) σ) : AO P v ops K j (⟨dst, op, ty, pos, af, some (g, true)⟩ :: rest) tm σ := by
 obtain ⟨d, hd, ht⟩ := Option.bind_eq_some_iff.mp h0; exact spec_t hd ht hy h
theorem spF (h0 : ((ops[g]?).bind (·.dst)).bind tm = some (.bool b)) (hy : (!b) = true → YL P v j ⟨dst, op, ty, pos, af, some (g, false)⟩ tm σ ks r []) (h : AO P v ops K (j + 1) rest (tm.putO dst (.mb (!b) r)) σ) : AO P v ops K j (⟨dst, op, ty, pos, af, some (g, false)⟩ :: rest) tm σ := by
 obtain ⟨d, hd, ht⟩ := Option.bind_eq_some_iff.mp h0; exact spec_f hd ht hy h
theorem dpT (h0 : ((ops[g]?).bind (·.dst)).bind tm = some (.bool b)) (hy : b = true → YL P v j ⟨dst, op, ty, pos, af, some (g, true)⟩ tm σ ks r []) (h : DO P v ops KD (j + 1) rest (tm.putO dst (.mb b r)) σ (⟨ks, []⟩ :: acc)) : DO P v ops KD j (⟨dst, op, ty, pos, af, some (g, true)⟩ :: rest) tm σ acc := by
 obtain ⟨d, hd, ht⟩ := Option.bind_eq_some_iff.mp h0; exact dspec_t hd ht hy h
theorem dpF (h0 : ((ops[g]?).bind (·.dst)).bind tm = some (.bool b)) (hy : (!b) = true → YL P v j ⟨dst, op, ty, pos, af, some (g, false)⟩ tm σ ks r []) (h : DO P v ops KD (j + 1) rest (tm.putO dst (.mb (!b) r)) σ (⟨ks, []⟩ :: acc)) : DO P v ops KD j (⟨dst, op, ty, pos, af, some (g, false)⟩ :: rest) tm σ acc := by
 obtain ⟨d, hd, ht⟩ := Option.bind_eq_some_iff.mp h0; exact dspec_f hd ht hy h
theorem aoR {l : List Oper} (h : ∀ v, AO P v l.toArray (Q .normal) 0 l tm σ) (hn : dstsLt n l = true := by exact rfl) : awp P n (.region id l.toArray false) Q tm σ := ao_region hn h
theorem cnd {c : Operand} {x y : Code} (h1 : b = true → awp P n x Q tm σ) (h2 : b = false → awp P n y Q tm σ) (hc : ev tm c = some (.bool b) := by exact rfl) : awp P n (.cond c x y) Q tm σ := awp_cond hc h1 h2
end
theorem leP {p : Prop} (h : p := by repeat' (first | exact vY _ | exact vS _ | refine uP rfl ?_ | refine vN rfl ?_)) : p := h
section
variable {E : Env} {v j : Nat} {ops : Array Oper} {K : Tm → Store → Prop} {KD : List Foot → Tm → Store → Prop} {acc : List Foot} {rest : List Oper} {tm : Tm} {σ : Store} {ty : TypeId} {pos : String} {af : Array Edge} {gd : Option (Nat × Bool)} {dst : Option Tmp}
theorem q1 {dst : Option Tmp} {gd : Option (Nat × Bool)} {x : Operand} {y : OV}  (h : EvM tm x y := by exact evm) : YL E.P v j ⟨dst, .move x, ty, pos, af, gd⟩ tm σ [] y [] := M_move h
theorem q2 {dst : Option Tmp} {gd : Option (Nat × Bool)} {T : TypeId} {x : Operand} {f : Nat} {te fe : TE} {fs : List (Nat × TypeId)} {o : Nat} {ft : TypeId} {k : Nat} {τ : Stamp} {s i p : Nat}  (hT : E.tab T = some te := by exact rfl) (hk : te.k = .st fs := by exact rfl) (hf : fs[f]? = some (o, ft) := by exact rfl) (hF : E.tab ft = some fe := by exact rfl) (hz : fe.size ≠ 0 := by decide) (hx : EvM tm x (.lo k τ s i p) := by exact evm) : YL E.P v j ⟨dst, .fieldAddr T x f, ty, pos, af, gd⟩ tm σ [] (.lo k τ s i (p + o)) [] := M_fieldAddr_lo hT hk hf hF hz hx
theorem q3 {dst : Option Tmp} {gd : Option (Nat × Bool)} {T : TypeId} {x : Operand} {te : TE} {k : Nat} {τ : Stamp} {s i p : Nat} {rows : List (List OV)} {row : List OV} {y : OV}  (hT : E.tab T = some te := by exact rfl) (ha : te.k.isAgg = false := by exact rfl) (hx : EvM tm x (.lo k τ s i p) := by exact evm) (hs : σ k = some (τ, ⟨s, rows⟩) := by exact rfl) (hr : rows[i]? = some row := by exact rfl) (hy : row[p]? = some y := by exact rfl) : YL E.P v j ⟨dst, .load T x, ty, pos, af, gd⟩ tm σ [k] y [] := lJ hT ha hx hs hr hy
theorem q5 {dst : Option Tmp} {gd : Option (Nat × Bool)} {T : TypeId} {x ix : Operand} {te ee : TE} {e : TypeId} {k : IntKind} {i : Int} {s : Nat} {rows : List (List TV)} {row : List TV}  (hT : E.tab T = some te := by exact rfl) (hk : te.k = .slice e := by exact rfl) (hE : E.tab e = some ee := by exact rfl) (hs : ee.size = s := by exact rfl) (hx : EvM tm x (.d (.sl s rows)) := by exact evm) (hi : EvM tm ix (.int k i) := by exact evm) (h0 : 0 ≤ i := by omega) (hr : rows[i.toNat]? = some row := by (first | exact lY (by omega) | exact uW (by omega) default | assumption)) : YL E.P v j ⟨dst, .indexAddr T x ix, ty, pos, af, gd⟩ tm σ [] (.d (.pt row 0)) [] := M_indexAddr_sl hT hk hE hs hx hi h0 hr
theorem q6 {dst : Option Tmp} {gd : Option (Nat × Bool)} {T : TypeId} {x : Operand} {te : TE} {row : List TV} {p : Nat} {t : TV}  (hT : E.tab T = some te := by exact rfl) (ha : te.k.isAgg = false := by exact rfl) (hx : EvM tm x (.d (.pt row p)) := by exact evm) (ht : row[p]? = some t := by exact rfl) : YL E.P v j ⟨dst, .load T x, ty, pos, af, gd⟩ tm σ [] (.d t) [] := M_load_pt hT ha hx ht
theorem q7 {dst : Option Tmp} {gd : Option (Nat × Bool)} {T T' : TypeId} {x y : Operand} {k : IntKind} {a b : Int}  (hx : EvM tm x (.int k a) := by exact evm) (hy : EvM tm y (.int k b) := by exact evm) : YL E.P v j ⟨dst, .binOp .eql T x y T', ty, pos, af, gd⟩ tm σ [] (.bool (decide (a = b))) [] := M_eql hx hy
theorem q8 {dst : Option Tmp} {gd : Option (Nat × Bool)} {T : TypeId} {x : Operand} {f : Nat} {te fe : TE} {fs : List (Nat × TypeId)} {o : Nat} {ft : TypeId} {row : List TV} {p : Nat}  (hT : E.tab T = some te := by exact rfl) (hk : te.k = .st fs := by exact rfl) (hf : fs[f]? = some (o, ft) := by exact rfl) (hF : E.tab ft = some fe := by exact rfl) (hz : fe.size ≠ 0 := by decide) (hx : EvM tm x (.d (.pt row p)) := by exact evm) : YL E.P v j ⟨dst, .fieldAddr T x f, ty, pos, af, gd⟩ tm σ [] (.d (.pt row (p + o))) [] := M_fieldAddr_pt hT hk hf hF hz hx
theorem q11 {dst : Option Tmp} {x : Operand} {y : OV} (hcont : AO E.P v ops K (j + 1) rest (tm.putO dst y) (σ.apply [])) (h : ev tm x = some y := by exact rfl) : AO E.P v ops K j (⟨dst, .move x, ty, pos, af, none⟩ :: rest) tm σ := S_move h hcont
theorem q12 {dst : Option Tmp} {x : Operand} {y : OV} (hcont : AO E.P v ops K (j + 1) rest (tm.putO dst y) (σ.apply [])) (h : ev tm x = some y := by exact rfl) : AO E.P v ops K j (⟨dst, .assign x, ty, pos, af, none⟩ :: rest) tm σ := S_assign h hcont
theorem q13 {d : Option Nat} {T e : TypeId} {te : TE} {x : Operand} {y : OV} {n : Nat} (hcont : AO E.P v ops K (j + 1) rest (tm.putO d (.int .i64 n)) (σ.apply [])) (hT : E.tab T = some te := by exact rfl) (hk : te.k = .slice e := by exact rfl) (hx : ev tm x = some y := by exact rfl) (hn : ∀ (G : Gh) (u : Value), RepO G y u → ∃ a c, u = .slice a n c := by (first | exact iP _ | exact lV _ _ _ | exact iO _ _ | exact oW _ _ _ _ | exact qJ _ _ _ _ _ | exact pR)) : AO E.P v ops K j (⟨d, .call { callee := .builtin .len, args := #[x], argTypes := #[T] }, ty, pos, af, none⟩ :: rest) tm σ := S_len hT hk hx hn hcont
theorem q14 {dst : Option Tmp} {T : TypeId} {x : Operand} {te : TE} {k : Nat} {τ : Stamp} {s i p : Nat} {rows : List (List OV)} {row : List OV} (hcont : AO E.P v ops K (j + 1) rest (tm.putO dst (.ag ((row.drop p).take te.size))) (σ.apply [])) (hT : E.tab T = some te := by exact rfl) (ha : te.k.isAgg = true := by exact rfl) (hx : ev tm x = some (.lo k τ s i p) := by exact rfl) (hs : σ k = some (τ, ⟨s, rows⟩) := by exact rfl) (hr : rows[i]? = some row := by (first | exact rfl | exact uW (by omega) default | exact xE (by omega) (by omega) (0 : Int) | assumption)) (hl : p + te.size ≤ row.length := by exact Nat.le_of_ble_eq_true rfl) : AO E.P v ops K j (⟨dst, .load T x, ty, pos, af, none⟩ :: rest) tm σ := S_load_loA hT ha hx hs hr hl hcont
theorem q15 {d : Option Nat} {T : TypeId} {x z : Operand} {te : TE} {k : Nat} {τ : Stamp} {s i p : Nat} {rows : List (List OV)} {row : List OV} {y : OV} (hcont : AO E.P v ops K (j + 1) rest (tm.putO d .un) (σ.apply [(k, some (τ, ⟨s, rows.set i (setAt row p y.cells)⟩))])) (hT : E.tab T = some te := by exact rfl) (hx : ev tm x = some (.lo k τ s i p) := by exact rfl) (hz : ev tm z = some y := by exact rfl) (hw' : y.wide = true := by exact rfl) (hn : y.cells.length = te.size := by exact rfl) (hs : σ k = some (τ, ⟨s, rows⟩) := by exact rfl) (hr : rows[i]? = some row := by (first | exact rfl | exact uW (by omega) (0 : Int) | exact uW (by omega) default | exact xE (by omega) (by omega) (0 : Int) | assumption)) (hp : p + te.size ≤ row.length := by exact Nat.le_of_ble_eq_true rfl) : AO E.P v ops K j (⟨d, .store T x z, ty, pos, af, none⟩ :: rest) tm σ := S_store hT hx hz hw' hn hs hr hp hcont
theorem q16 {dst : Option Tmp} {T : TypeId} {x : Operand} {te : TE} {k : Nat} {τ : Stamp} {s i p : Nat} {rows : List (List OV)} {row : List OV} {y : OV} (hcont : AO E.P v ops K (j + 1) rest (tm.putO dst y) (σ.apply [])) (hT : E.tab T = some te := by exact rfl) (ha : te.k.isAgg = false := by exact rfl) (hx : ev tm x = some (.lo k τ s i p) := by exact rfl) (hs : σ k = some (τ, ⟨s, rows⟩) := by exact rfl) (hr : rows[i]? = some row := by (first | exact rfl | exact uW (by omega) (0 : Int) | exact uW (by omega) default | exact hrow _ | assumption)) (hy : row[p]? = some y := by exact rfl) : AO E.P v ops K j (⟨dst, .load T x, ty, pos, af, none⟩ :: rest) tm σ := S_load_lo hT ha hx hs hr hy hcont
theorem q17 {dst : Option Tmp} {T : TypeId} {x ix : Operand} {te ee : TE} {e : TypeId} {k : IntKind} {i : Int} {s : Nat} {rows : List (List TV)} {row : List TV} (hcont : AO E.P v ops K (j + 1) rest (tm.putO dst (.d (.pt row 0))) (σ.apply [])) (hT : E.tab T = some te := by exact rfl) (hk : te.k = .slice e := by exact rfl) (hE : E.tab e = some ee := by exact rfl) (hs : ee.size = s := by exact rfl) (hx : ev tm x = some (.d (.sl s rows)) := by exact rfl) (hi : ev tm ix = some (.int k i) := by exact rfl) (h0 : 0 ≤ i := by omega) (hr : rows[i.toNat]? = some row := by (first | exact lY (by omega) | exact uW (by omega) default | assumption)) : AO E.P v ops K j (⟨dst, .indexAddr T x ix, ty, pos, af, none⟩ :: rest) tm σ := S_indexAddr_sl hT hk hE hs hx hi h0 hr hcont
theorem q18 {gd : Option (Nat × Bool)} {d : Option Nat} {T e : TypeId} {te : TE} {x : Operand} {y : OV} {n : Nat}  (hT : E.tab T = some te := by exact rfl) (hk : te.k = .slice e := by exact rfl) (hx : EvM tm x y := by exact evm) (hn : ∀ (G : Gh) (u : Value), RepO G y u → ∃ a c, u = .slice a n c := by (first | exact iP _ | exact lV _ _ _ | exact iO _ _ | exact oW _ _ _ _ | exact qJ _ _ _ _ _ | exact pR)) : YL E.P v j ⟨d, .call { callee := .builtin .len, args := #[x], argTypes := #[T] }, ty, pos, af, gd⟩ tm σ [] (.int .i64 n) [] := M_len hT hk hx hn
theorem q19 {d : Nat} {T e : TypeId} {te ee : TE} {x z : Operand} {s k : Nat} {y1 y2 : OV} {ks1 ks2 : List Nat} {rows1 rows2 : List (List OV)} (hcont : AO E.P v ops K (j + 1) rest (tm.putO (some d) (.os k (v, j) s (rows1.length + rows2.length))) (σ.apply [(k, some ((v, j), ⟨s, rows1 ++ rows2⟩))])) (hT : E.tab T = some te := by exact rfl) (hk : te.k = .slice e := by exact rfl) (hE : E.tab e = some ee := by exact rfl) (hs : ee.size = s := by exact rfl) (hpos : 0 < s := by decide) (hx : ev tm x = some y1 := by exact rfl) (hz : ev tm z = some y2 := by exact rfl) (h1 : Dst σ s d y1 ks1 k rows1 := by (first | exact .os _ _ _ _ rfl (by first | rfl | (first | omega | (simp only [List.length_append, List.length_map, List.length_take, List.length_drop, List.length_cons, List.length_nil, List.length_replicate, uV] <;> omega))) | exact .nil)) (h2 : Src σ s y2 ks2 rows2 := by (first | exact .os _ _ _ _ rfl (by first | rfl | (first | omega | (simp only [List.length_append, List.length_map, List.length_take, List.length_drop, List.length_cons, List.length_nil, List.length_replicate, uV] <;> omega))) | exact .vw _ _ _ _ _ rfl (by (first | omega | (simp only [List.length_append, List.length_map, List.length_take, List.length_drop, List.length_cons, List.length_nil, List.length_replicate, uV] <;> omega))) | exact .nil | exact .sl _)) (hlf : ∀ r ∈ rows2, ∀ y ∈ r, y.leaf = true := by (repeat (first | exact LeafR.nil | exact LeafR.cells _ _ | exact LeafR.d _ | (apply LeafR.one; exact rfl) | exact hleaf _ | refine LeafR.take _ ?_ | refine LeafR.drop _ ?_ | refine LeafR.app ?_ ?_ | (apply LeafR.lit; exact rfl) | assumption))) (hb : (rows1.length + rows2.length) * ee.bytes ≤ 140737488355328 := by (show _ * (Nat.succ _) ≤ _; (first | omega | (simp only [List.length_append, List.length_map, List.length_take, List.length_drop, List.length_cons, List.length_nil, List.length_replicate, uV] <;> omega)))) (hm : rows1.length + rows2.length ≤ maxLen := by (unfold maxLen; (first | omega | (simp only [List.length_append, List.length_map, List.length_take, List.length_drop, List.length_cons, List.length_nil, List.length_replicate, uV] <;> omega)))) : AO E.P v ops K j (⟨some d, .call { callee := .builtin .append, args := #[x, z], argTypes := #[T, T] }, ty, pos, af, none⟩ :: rest) tm σ := S_append hT hk hE hs hpos hx hz h1 h2 hlf hb hm hcont
theorem q21 {dst : Option Tmp} {gd : Option (Nat × Bool)} {T T' : TypeId} {x y : Operand} {k : IntKind} {a b : Int}  (hx : EvM tm x (.int k a) := by exact evm) (hy : EvM tm y (.int k b) := by exact evm) : YL E.P v j ⟨dst, .binOp .geq T x y T', ty, pos, af, gd⟩ tm σ [] (.bool (decide (b ≤ a))) [] := M_geq hx hy
theorem q22 {dst : Option Tmp} {gd : Option (Nat × Bool)} {T T' : TypeId} {x y : Operand} {k : IntKind} {a b : Int}  (hx : EvM tm x (.int k a) := by exact evm) (hy : EvM tm y (.int k b) := by exact evm) : YL E.P v j ⟨dst, .binOp .lss T x y T', ty, pos, af, gd⟩ tm σ [] (.bool (decide (a < b))) [] := M_lss hx hy
theorem q23 {dst : Option Tmp} {T : TypeId} {x : Operand} {te : TE} {row : List TV} {p : Nat} {t : TV} (hcont : AO E.P v ops K (j + 1) rest (tm.putO dst (.d t)) (σ.apply [])) (hT : E.tab T = some te := by exact rfl) (ha : te.k.isAgg = false := by exact rfl) (hx : ev tm x = some (.d (.pt row p)) := by exact rfl) (ht : row[p]? = some t := by exact rfl) : AO E.P v ops K j (⟨dst, .load T x, ty, pos, af, none⟩ :: rest) tm σ := S_load_pt hT ha hx ht hcont
theorem q26 {dst : Option Tmp} {gd : Option (Nat × Bool)} {T T' : TypeId} {x y : Operand} {k : IntKind} {a b : Int}  (hx : EvM tm x (.int k a) := by exact evm) (hy : EvM tm y (.int k b) := by exact evm) : YL E.P v j ⟨dst, .binOp .neq T x y T', ty, pos, af, gd⟩ tm σ [] (.bool (!decide (a = b))) [] := M_neq hx hy
theorem q27 {dst : Option Tmp} {gd : Option (Nat × Bool)} {T : TypeId} {x : Operand} {te : TE} {k : Nat} {τ : Stamp} {s i p : Nat} {rows : List (List OV)} {row : List OV}  (hT : E.tab T = some te := by exact rfl) (ha : te.k.isAgg = true := by exact rfl) (hx : EvM tm x (.lo k τ s i p) := by exact evm) (hs : σ k = some (τ, ⟨s, rows⟩) := by exact rfl) (hr : rows[i]? = some row := by exact rfl) (hl : p + te.size ≤ row.length := by exact Nat.le_of_ble_eq_true rfl) : YL E.P v j ⟨dst, .load T x, ty, pos, af, gd⟩ tm σ [k] (.ag ((row.drop p).take te.size)) [] := M_load_loA hT ha hx hs hr hl
theorem q28 {dst : Option Tmp} {T : TypeId} {x : Operand} {f : Nat} {te fe : TE} {fs : List (Nat × TypeId)} {o : Nat} {ft : TypeId} {k : Nat} {τ : Stamp} {s i p : Nat} (hcont : AO E.P v ops K (j + 1) rest (tm.putO dst (.lo k τ s i (p + o))) (σ.apply [])) (hT : E.tab T = some te := by exact rfl) (hk : te.k = .st fs := by exact rfl) (hf : fs[f]? = some (o, ft) := by exact rfl) (hF : E.tab ft = some fe := by exact rfl) (hz : fe.size ≠ 0 := by decide) (hx : ev tm x = some (.lo k τ s i p) := by exact rfl) : AO E.P v ops K j (⟨dst, .fieldAddr T x f, ty, pos, af, none⟩ :: rest) tm σ := S_fieldAddr_lo hT hk hf hF hz hx hcont
theorem q29 {d : Nat} {T e : TypeId} {te ee : TE} {x z : Operand} {s k : Nat} {y1 y2 : OV} {ks1 ks2 : List Nat} {rows1 rows2 : List (List OV)} (hcont : DO E.P v ops KD (j + 1) rest (tm.putO (some d) (.os k (v, j) s (rows1.length + rows2.length))) (σ.apply [(k, some ((v, j), ⟨s, rows1 ++ rows2⟩))]) (Foot.mk (ks1 ++ ks2) (wkeys [(k, some ((v, j), ⟨s, rows1 ++ rows2⟩))]) :: acc)) (hT : E.tab T = some te := by exact rfl) (hk : te.k = .slice e := by exact rfl) (hE : E.tab e = some ee := by exact rfl) (hs : ee.size = s := by exact rfl) (hpos : 0 < s := by decide) (hx : ev tm x = some y1 := by exact rfl) (hz : ev tm z = some y2 := by exact rfl) (h1 : Dst σ s d y1 ks1 k rows1 := by (first | exact .os _ _ _ _ rfl (by first | rfl | (first | omega | (simp only [List.length_append, List.length_map, List.length_take, List.length_drop, List.length_cons, List.length_nil, List.length_replicate, uV] <;> omega))) | exact .nil)) (h2 : Src σ s y2 ks2 rows2 := by (first | exact .os _ _ _ _ rfl (by first | rfl | (first | omega | (simp only [List.length_append, List.length_map, List.length_take, List.length_drop, List.length_cons, List.length_nil, List.length_replicate, uV] <;> omega))) | exact .vw _ _ _ _ _ rfl (by (first | omega | (simp only [List.length_append, List.length_map, List.length_take, List.length_drop, List.length_cons, List.length_nil, List.length_replicate, uV] <;> omega))) | exact .nil | exact .sl _)) (hlf : ∀ r ∈ rows2, ∀ y ∈ r, y.leaf = true := by (repeat (first | exact LeafR.nil | exact LeafR.cells _ _ | exact LeafR.d _ | (apply LeafR.one; exact rfl) | exact hleaf _ | refine LeafR.take _ ?_ | refine LeafR.drop _ ?_ | refine LeafR.app ?_ ?_ | (apply LeafR.lit; exact rfl) | assumption))) (hb : (rows1.length + rows2.length) * ee.bytes ≤ 140737488355328 := by (show _ * (Nat.succ _) ≤ _; (first | omega | (simp only [List.length_append, List.length_map, List.length_take, List.length_drop, List.length_cons, List.length_nil, List.length_replicate, uV] <;> omega)))) (hm : rows1.length + rows2.length ≤ maxLen := by (unfold maxLen; (first | omega | (simp only [List.length_append, List.length_map, List.length_take, List.length_drop, List.length_cons, List.length_nil, List.length_replicate, uV] <;> omega)))) : DO E.P v ops KD j (⟨some d, .call { callee := .builtin .append, args := #[x, z], argTypes := #[T, T] }, ty, pos, af, none⟩ :: rest) tm σ acc := D_append hT hk hE hs hpos hx hz h1 h2 hlf hb hm hcont
theorem q30 {dst : Option Tmp} {T : TypeId} {x ix : Operand} {te ee : TE} {e : TypeId} {k : IntKind} {i : Int} {s : Nat} {rows : List (List TV)} {row : List TV} (hcont : DO E.P v ops KD (j + 1) rest (tm.putO dst (.d (.pt row 0))) (σ.apply []) (Foot.mk [] (wkeys []) :: acc)) (hT : E.tab T = some te := by exact rfl) (hk : te.k = .slice e := by exact rfl) (hE : E.tab e = some ee := by exact rfl) (hs : ee.size = s := by exact rfl) (hx : ev tm x = some (.d (.sl s rows)) := by exact rfl) (hi : ev tm ix = some (.int k i) := by exact rfl) (h0 : 0 ≤ i := by omega) (hr : rows[i.toNat]? = some row := by (first | exact lY (by omega) | exact uW (by omega) default | assumption)) : DO E.P v ops KD j (⟨dst, .indexAddr T x ix, ty, pos, af, none⟩ :: rest) tm σ acc := D_indexAddr_sl hT hk hE hs hx hi h0 hr hcont
theorem q32 {dst : Option Tmp} {T : TypeId} {x : Operand} {f : Nat} {te fe : TE} {fs : List (Nat × TypeId)} {o : Nat} {ft : TypeId} {row : List TV} {p : Nat} (hcont : AO E.P v ops K (j + 1) rest (tm.putO dst (.d (.pt row (p + o)))) (σ.apply [])) (hT : E.tab T = some te := by exact rfl) (hk : te.k = .st fs := by exact rfl) (hf : fs[f]? = some (o, ft) := by exact rfl) (hF : E.tab ft = some fe := by exact rfl) (hz : fe.size ≠ 0 := by decide) (hx : ev tm x = some (.d (.pt row p)) := by exact rfl) : AO E.P v ops K j (⟨dst, .fieldAddr T x f, ty, pos, af, none⟩ :: rest) tm σ := S_fieldAddr_pt hT hk hf hF hz hx hcont
theorem q33 {dst : Option Tmp} {T : TypeId} {x : Operand} {te : TE} {row : List TV} {p : Nat} (hcont : AO E.P v ops K (j + 1) rest (tm.putO dst (.ag (((row.drop p).take te.size).map .d))) (σ.apply [])) (hT : E.tab T = some te := by exact rfl) (ha : te.k.isAgg = true := by exact rfl) (hx : ev tm x = some (.d (.pt row p)) := by exact rfl) (hl : p + te.size ≤ row.length := by exact Nat.le_of_ble_eq_true rfl) : AO E.P v ops K j (⟨dst, .load T x, ty, pos, af, none⟩ :: rest) tm σ := S_load_ptA hT ha hx hl hcont
theorem q35 {dst : Option Tmp} {gd : Option (Nat × Bool)} {T T' : TypeId} {x y : Operand} {k : IntKind} {a b : Int}  (hx : EvM tm x (.int k a) := by exact evm) (hy : EvM tm y (.int k b) := by exact evm) : YL E.P v j ⟨dst, .binOp .gtr T x y T', ty, pos, af, gd⟩ tm σ [] (.bool (decide (b < a))) [] := M_gtr hx hy
theorem q36 {dst : Option Tmp} {T T' : TypeId} {x y : Operand} {a b : Int} (hcont : AO E.P v ops K (j + 1) rest (tm.putO dst (.int .i64 (a + b))) (σ.apply [])) (hx : ev tm x = some (.int .i64 a) := by exact rfl) (hy : ev tm y = some (.int .i64 b) := by exact rfl) (h : -9223372036854775808 ≤ a + b ∧ a + b ≤ 9223372036854775807 := by omega) : AO E.P v ops K j (⟨dst, .binOp .add T x y T', ty, pos, af, none⟩ :: rest) tm σ := S_add64 hx hy h hcont
theorem q37 {dst : Option Tmp} {T T' : TypeId} {x y : Operand} {k : IntKind} {a b : Int} (hcont : AO E.P v ops K (j + 1) rest (tm.putO dst (.bool (decide (a < b)))) (σ.apply [])) (hx : ev tm x = some (.int k a) := by exact rfl) (hy : ev tm y = some (.int k b) := by exact rfl) : AO E.P v ops K j (⟨dst, .binOp .lss T x y T', ty, pos, af, none⟩ :: rest) tm σ := S_lss hx hy hcont
theorem q38 {dst : Option Tmp} {x : Operand} {y : OV} (hcont : DO E.P v ops KD (j + 1) rest (tm.putO dst y) (σ.apply []) (Foot.mk [] (wkeys []) :: acc)) (h : ev tm x = some y := by exact rfl) : DO E.P v ops KD j (⟨dst, .move x, ty, pos, af, none⟩ :: rest) tm σ acc := D_move h hcont
theorem q40 {d : Nat} {T : TypeId} {x : Operand} {y : OV} {n : Nat} (hcont : AO E.P v ops K (j + 1) rest (tm.putO (some d) (.lo d (v, j) n 0 0)) (σ.apply [(d, some ((v, j), ⟨n, [y.cells]⟩))])) (hx : ev tm x = some y := by exact rfl) (hw' : y.wide = true := by exact rfl) (hn : y.cells.length = n := by exact rfl) : AO E.P v ops K j (⟨some d, .box T x, ty, pos, af, none⟩ :: rest) tm σ := S_box hx hw' hn hcont
theorem q42 {dst : Option Tmp} {gd : Option (Nat × Bool)} {T : TypeId} {x : Operand} {b : Bool}  (hx : EvM tm x (.bool b) := by exact evm) : YL E.P v j ⟨dst, .unOp .not T x, ty, pos, af, gd⟩ tm σ [] (.bool (!b)) [] := M_not hx
theorem q44 {dst : Option Tmp} {T T' : TypeId} {x y : Operand} {k : IntKind} {a b : Int} (hcont : AO E.P v ops K (j + 1) rest (tm.putO dst (.bool (!decide (a = b)))) (σ.apply [])) (hx : ev tm x = some (.int k a) := by exact rfl) (hy : ev tm y = some (.int k b) := by exact rfl) : AO E.P v ops K j (⟨dst, .binOp .neq T x y T', ty, pos, af, none⟩ :: rest) tm σ := S_neq hx hy hcont
theorem q45 {dst : Option Tmp} {gd : Option (Nat × Bool)} {T : TypeId} {x ix : Operand} {te ee : TE} {e : TypeId} {k : IntKind} {i : Int} {q s n : Nat} {τ : Stamp}  (hT : E.tab T = some te := by exact rfl) (hk : te.k = .slice e := by exact rfl) (hE : E.tab e = some ee := by exact rfl) (hs : ee.size = s := by exact rfl) (hx : EvM tm x (.os q τ s n) := by exact evm) (hi : EvM tm ix (.int k i) := by exact evm) (hin : 0 ≤ i ∧ i < n := by omega) : YL E.P v j ⟨dst, .indexAddr T x ix, ty, pos, af, gd⟩ tm σ [] (.lo q τ s i.toNat 0) [] := M_indexAddr_os hT hk hE hs hx hi hin
theorem q46 {dst : Option Tmp} {T T' : TypeId} {x y : Operand} {k : IntKind} {a b : Int} (hcont : AO E.P v ops K (j + 1) rest (tm.putO dst (.bool (decide (a = b)))) (σ.apply [])) (hx : ev tm x = some (.int k a) := by exact rfl) (hy : ev tm y = some (.int k b) := by exact rfl) : AO E.P v ops K j (⟨dst, .binOp .eql T x y T', ty, pos, af, none⟩ :: rest) tm σ := S_eql hx hy hcont
theorem q47 {dst : Option Tmp} {gd : Option (Nat × Bool)} {T : TypeId} {x : Operand} {te : TE} {row : List TV} {p : Nat}  (hT : E.tab T = some te := by exact rfl) (ha : te.k.isAgg = true := by exact rfl) (hx : EvM tm x (.d (.pt row p)) := by exact evm) (hl : p + te.size ≤ row.length := by exact Nat.le_of_ble_eq_true rfl) : YL E.P v j ⟨dst, .load T x, ty, pos, af, gd⟩ tm σ [] (.ag (((row.drop p).take te.size).map .d)) [] := M_load_ptA hT ha hx hl
theorem q49 {dst : Option Tmp} {gd : Option (Nat × Bool)} {T : TypeId} {x : Operand} {te : TE} {k : Nat} {τ : Stamp} {s i p : Nat} {rows : List (List OV)} {row : List OV} {y : OV}  (hT : E.tab T = some te := by exact rfl) (ha : te.k.isAgg = false := by exact rfl) (hx : EvM tm x (.lo k τ s i p) := by exact evm) (hs : σ k = some (τ, ⟨s, rows⟩) := by exact rfl) (hr : rows[i]? = some row := by (first | exact uW (by omega) (0 : Int) | exact uW (by omega) default)) (hy : row[p]? = some y := by exact rfl) : YL E.P v j ⟨dst, .load T x, ty, pos, af, gd⟩ tm σ [k] y [] := lJ hT ha hx hs hr hy
theorem q50 {dst : Option Tmp} {T : TypeId} {x : Operand} {te : TE} {row : List TV} {p : Nat} {t : TV} (hcont : DO E.P v ops KD (j + 1) rest (tm.putO dst (.d t)) (σ.apply []) (Foot.mk [] (wkeys []) :: acc)) (hT : E.tab T = some te := by exact rfl) (ha : te.k.isAgg = false := by exact rfl) (hx : ev tm x = some (.d (.pt row p)) := by exact rfl) (ht : row[p]? = some t := by exact rfl) : DO E.P v ops KD j (⟨dst, .load T x, ty, pos, af, none⟩ :: rest) tm σ acc := D_load_pt hT ha hx ht hcont
theorem q51 {d : Nat} {e : TypeId} {te ee : TE} {s : Nat} (hcont : AO E.P v ops K (j + 1) rest (tm.putO (some d) (.os d (v, j) s 0)) (σ.apply [(d, some ((v, j), ⟨s, []⟩))])) (hT : E.tab ty = some te := by exact rfl) (hk : te.k = .slice e := by exact rfl) (hE : E.tab e = some ee := by exact rfl) (hs : ee.size = s := by exact rfl) : AO E.P v ops K j (⟨some d, .assign (.const (.slice none 0 0)), ty, pos, af, none⟩ :: rest) tm σ := S_nilA hT hk hE hs hcont
theorem q52 {dst : Option Tmp} {T : TypeId} {x : Operand} {f : Nat} {te fe : TE} {fs : List (Nat × TypeId)} {o : Nat} {ft : TypeId} {row : List TV} {p : Nat} (hcont : DO E.P v ops KD (j + 1) rest (tm.putO dst (.d (.pt row (p + o)))) (σ.apply []) (Foot.mk [] (wkeys []) :: acc)) (hT : E.tab T = some te := by exact rfl) (hk : te.k = .st fs := by exact rfl) (hf : fs[f]? = some (o, ft) := by exact rfl) (hF : E.tab ft = some fe := by exact rfl) (hz : fe.size ≠ 0 := by decide) (hx : ev tm x = some (.d (.pt row p)) := by exact rfl) : DO E.P v ops KD j (⟨dst, .fieldAddr T x f, ty, pos, af, none⟩ :: rest) tm σ acc := D_fieldAddr_pt hT hk hf hF hz hx hcont
theorem q53 {dst : Option Tmp} {gd : Option (Nat × Bool)} {T : TypeId} {x : Operand} {f : Nat} {te fe : TE} {fs : List (Nat × TypeId)} {o : Nat} {ft : TypeId} {cs : List OV} {y : OV}  (hT : E.tab T = some te := by exact rfl) (hk : te.k = .st fs := by exact rfl) (hf : fs[f]? = some (o, ft) := by exact rfl) (hF : E.tab ft = some fe := by exact rfl) (ha : fe.k.isAgg = false := by exact rfl) (hx : EvM tm x (.ag cs) := by exact evm) (hy : cs[o]? = some y := by exact rfl) : YL E.P v j ⟨dst, .field T x f, ty, pos, af, gd⟩ tm σ [] y [] := M_field1 hT hk hf hF ha hx hy
theorem q54 {d : Option Nat} {T : TypeId} {parts : List (Nat × Operand)} {te : TE} {fs : List (Nat × TypeId)} {ys : List (Nat × OV)} {cs : List OV} (hcont : AO E.P v ops K (j + 1) rest (tm.putO d (.ag cs)) (σ.apply [])) (hT : E.tab T = some te := by exact rfl) (hk : te.k = .st fs := by exact rfl) (hfs : (fs.all fun f => (E.tab f.2).isSome) = true := by exact rfl) (hp : evParts tm parts = some ys := by exact rfl) (hc : fillO (fun i => (fs[i]?).map fun f : Nat × TypeId => (f.1, sizeT E f.2)) (consts te.zero) ys = some cs := by exact rfl) : AO E.P v ops K j (⟨d, .build T parts.toArray, ty, pos, af, none⟩ :: rest) tm σ := S_build hT hk hfs hp hc hcont
theorem q56 {dst : Option Tmp} {T : TypeId} {x : Operand} {f : Nat} {te fe : TE} {fs : List (Nat × TypeId)} {o : Nat} {ft : TypeId} {k : Nat} {τ : Stamp} {s i p : Nat} (hcont : DO E.P v ops KD (j + 1) rest (tm.putO dst (.lo k τ s i (p + o))) (σ.apply []) (Foot.mk [] (wkeys []) :: acc)) (hT : E.tab T = some te := by exact rfl) (hk : te.k = .st fs := by exact rfl) (hf : fs[f]? = some (o, ft) := by exact rfl) (hF : E.tab ft = some fe := by exact rfl) (hz : fe.size ≠ 0 := by decide) (hx : ev tm x = some (.lo k τ s i p) := by exact rfl) : DO E.P v ops KD j (⟨dst, .fieldAddr T x f, ty, pos, af, none⟩ :: rest) tm σ acc := D_fieldAddr_lo hT hk hf hF hz hx hcont
theorem q57 {dst : Option Tmp} {T : TypeId} {x : Operand} {te : TE} {k : Nat} {τ : Stamp} {s i p : Nat} {rows : List (List OV)} {row : List OV} (hcont : DO E.P v ops KD (j + 1) rest (tm.putO dst (.ag ((row.drop p).take te.size))) (σ.apply []) (Foot.mk [k] (wkeys []) :: acc)) (hT : E.tab T = some te := by exact rfl) (ha : te.k.isAgg = true := by exact rfl) (hx : ev tm x = some (.lo k τ s i p) := by exact rfl) (hs : σ k = some (τ, ⟨s, rows⟩) := by exact rfl) (hr : rows[i]? = some row := by (first | exact rfl | exact uW (by omega) default | exact xE (by omega) (by omega) (0 : Int) | assumption)) (hl : p + te.size ≤ row.length := by exact Nat.le_of_ble_eq_true rfl) : DO E.P v ops KD j (⟨dst, .load T x, ty, pos, af, none⟩ :: rest) tm σ acc := D_load_loA hT ha hx hs hr hl hcont
theorem q58 {dst : Option Tmp} {gd : Option (Nat × Bool)} {T T' : TypeId} {x y : Operand} {a b : Int}  (hx : EvM tm x (.int .i64 a) := by exact evm) (hy : EvM tm y (.int .i64 b) := by exact evm) (h : -9223372036854775808 ≤ a - b ∧ a - b ≤ 9223372036854775807 := by omega) : YL E.P v j ⟨dst, .binOp .sub T x y T', ty, pos, af, gd⟩ tm σ [] (.int .i64 (a - b)) [] := M_sub64 hx hy h
theorem q59 {d : Option Nat} {T e : TypeId} {te : TE} {x : Operand} {y : OV} {n : Nat} (hcont : DO E.P v ops KD (j + 1) rest (tm.putO d (.int .i64 n)) (σ.apply []) (Foot.mk [] (wkeys []) :: acc)) (hT : E.tab T = some te := by exact rfl) (hk : te.k = .slice e := by exact rfl) (hx : ev tm x = some y := by exact rfl) (hn : ∀ (G : Gh) (u : Value), RepO G y u → ∃ a c, u = .slice a n c := by (first | exact iP _ | exact lV _ _ _ | exact iO _ _ | exact oW _ _ _ _ | exact qJ _ _ _ _ _ | exact pR)) : DO E.P v ops KD j (⟨d, .call { callee := .builtin .len, args := #[x], argTypes := #[T] }, ty, pos, af, none⟩ :: rest) tm σ acc := D_len hT hk hx hn hcont
end
section
variable {P : Program} {v j : Nat} {ops : Array Oper} {K : Tm → Store → Prop} {KD : List Foot → Tm → Store → Prop} {acc : List Foot} {rest : List Oper} {tm : Tm} {σ : Store} {dst : Option Tmp} {ty : TypeId} {pos : String} {af : Array Edge} {gd : Option (Nat × Bool)} {c p q : Operand} {b x z : Bool}
theorem q0  (hk : AO P v ops K (j + 1) rest (tm.putO dst (.bool (b || z))) (σ.apply [])) (hc : EvM tm c (.bool b) := by exact evm) (hp : ev tm p = some (.bool true) := by exact rfl) (hq : EvB tm q z (b = false) := by (first | (refine EvB.mb _ rfl ?_; first | exact fun h => h | exact fun h => xW h | exact fun h => xX (by assumption) h | exact fun h => xX (by assumption) (xW h) | (intro h; simp_all)) | exact EvB.plain rfl)) : AO P v ops K j (⟨dst, .pick c p q, ty, pos, af, none⟩ :: rest) tm σ := S_pick_or hc hp hq hk
theorem q4  (hk : AO P v ops K (j + 1) rest (tm.putO dst (.bool (b && x))) (σ.apply [])) (hc : EvM tm c (.bool b) := by exact evm) (hp : EvB tm p x (b = true) := by (first | (refine EvB.mb _ rfl ?_; first | exact fun h => h | exact fun h => xW h | exact fun h => xX (by assumption) h | exact fun h => xX (by assumption) (xW h) | (intro h; simp_all)) | exact EvB.plain rfl)) (hq : ev tm q = some (.bool false) := by exact rfl) : AO P v ops K j (⟨dst, .pick c p q, ty, pos, af, none⟩ :: rest) tm σ := S_pick_and hc hp hq hk
theorem q9  (hk : DO P v ops KD (j + 1) rest (tm.putO dst (.bool (b && x))) (σ.apply []) (Foot.mk [] (wkeys []) :: acc)) (hc : EvM tm c (.bool b) := by exact evm) (hp : EvB tm p x (b = true) := by (first | (refine EvB.mb _ rfl ?_; first | exact fun h => h | exact fun h => xW h | exact fun h => xX (by assumption) h | exact fun h => xX (by assumption) (xW h) | (intro h; simp_all)) | exact EvB.plain rfl)) (hq : ev tm q = some (.bool false) := by exact rfl) : DO P v ops KD j (⟨dst, .pick c p q, ty, pos, af, none⟩ :: rest) tm σ acc := D_pick_and hc hp hq hk
theorem q10   (hc : EvM tm c (.bool b) := by exact evm) (hp : EvB tm p x (b = true) := by (first | (refine EvB.mb _ rfl ?_; first | exact fun h => h | exact fun h => xW h | exact fun h => xX (by assumption) h | exact fun h => xX (by assumption) (xW h) | (intro h; simp_all)) | exact EvB.plain rfl)) (hq : ev tm q = some (.bool false) := by exact rfl) : YL P v j ⟨dst, .pick c p q, ty, pos, af, gd⟩ tm σ [] (.bool (b && x)) [] := dM hc hp hq
theorem q24   (hc : EvM tm c (.bool b) := by exact evm) (hp : ev tm p = some (.bool true) := by exact rfl) (hq : EvB tm q z (b = false) := by (first | (refine EvB.mb _ rfl ?_; first | exact fun h => h | exact fun h => xW h | exact fun h => xX (by assumption) h | exact fun h => xX (by assumption) (xW h) | (intro h; simp_all)) | exact EvB.plain rfl)) : YL P v j ⟨dst, .pick c p q, ty, pos, af, gd⟩ tm σ [] (.bool (b || z)) [] := fV hc hp hq
theorem q25  (hk : DO P v ops KD (j + 1) rest (tm.putO dst (.bool (b || z))) (σ.apply []) (Foot.mk [] (wkeys []) :: acc)) (hc : EvM tm c (.bool b) := by exact evm) (hp : ev tm p = some (.bool true) := by exact rfl) (hq : EvB tm q z (b = false) := by (first | (refine EvB.mb _ rfl ?_; first | exact fun h => h | exact fun h => xW h | exact fun h => xX (by assumption) h | exact fun h => xX (by assumption) (xW h) | (intro h; simp_all)) | exact EvB.plain rfl)) : DO P v ops KD j (⟨dst, .pick c p q, ty, pos, af, none⟩ :: rest) tm σ acc := D_pick_or hc hp hq hk
end
end Go.Proofs.YtnkocjkkefnelaaGreat
namespace Go.Proofs
open Go.Shelf
def Tryz.lays128_ren : Go.Shelf.Ren := ⟨fun | 128 => 122 | n => n, fun | 51 => 38 | 3 => 3 | 4 => 4 | 46 => 125 | 5 => 5 | 9 => 9 | n => n, fun | n => n⟩
theorem Tryz.lays128 : Go.Proofs.Lays.n128 Tryz.prog Tryz.lays128_ren := {
 mixed := by kernel_rfl
 f128 := Tryz.func122.trans (congrArg some (by kernel_rfl))
 t3 := Tryz.underlying3
 a3 := Tryz.isAgg3
 z3 := Tryz.sizeOf3
 v3 := Tryz.zeroValue3
 t4 := Tryz.underlying4
 a4 := Tryz.isAgg4
 z4 := Tryz.sizeOf4
 v4 := Tryz.zeroValue4
 t5 := Tryz.underlying5
 a5 := Tryz.isAgg5
 z5 := Tryz.sizeOf5
 v5 := Tryz.zeroValue5
 t9 := Tryz.underlying9
 a9 := Tryz.isAgg9
 z9 := Tryz.sizeOf9
 v9 := Tryz.zeroValue9
 t46 := Tryz.underlying125
 a46 := Tryz.isAgg125
 z46 := Tryz.sizeOf125
 v46 := Tryz.zeroValue125
 t51 := Tryz.underlying38
 a51 := Tryz.isAgg38
 z51 := Tryz.sizeOf38
 v51 := Tryz.zeroValue38 }
theorem Tryz.bits_Len32 (x : Int) (w : World) (h0 : 0 ≤ x) (h1 : x ≤ 4294967295) :
  Calls Tryz.prog 122 #[.int .u32 x] w fun e w' => e = .returned (.int .i64 (Lib.bitLen x.toNat)) ∧ w' = w := Any.bits_Len32 Tryz.lays128 x w h0 h1
def Tryz.lays125_ren : Go.Shelf.Ren := ⟨fun | 125 => 101 | 128 => 122 | 129 => 123 | n => n, fun | 46 => 125 | 3 => 3 | 51 => 38 | 53 => 142 | 4 => 4 | 5 => 5 | 9 => 9 | n => n, fun | n => n⟩
theorem Tryz.lays125 : Go.Proofs.Lays.n125 Tryz.prog Tryz.lays125_ren := {
 mixed := by kernel_rfl
 f125 := Tryz.func101.trans (congrArg some (by kernel_rfl))
 f128 := Tryz.func122.trans (congrArg some (by kernel_rfl))
 f129 := Tryz.func123.trans (congrArg some (by kernel_rfl))
 t3 := Tryz.underlying3
 a3 := Tryz.isAgg3
 z3 := Tryz.sizeOf3
 v3 := Tryz.zeroValue3
 t4 := Tryz.underlying4
 a4 := Tryz.isAgg4
 z4 := Tryz.sizeOf4
 v4 := Tryz.zeroValue4
 t5 := Tryz.underlying5
 a5 := Tryz.isAgg5
 z5 := Tryz.sizeOf5
 v5 := Tryz.zeroValue5
 t9 := Tryz.underlying9
 a9 := Tryz.isAgg9
 z9 := Tryz.sizeOf9
 v9 := Tryz.zeroValue9
 t46 := Tryz.underlying125
 a46 := Tryz.isAgg125
 z46 := Tryz.sizeOf125
 v46 := Tryz.zeroValue125
 t51 := Tryz.underlying38
 a51 := Tryz.isAgg38
 z51 := Tryz.sizeOf38
 v51 := Tryz.zeroValue38
 t53 := Tryz.underlying142
 a53 := Tryz.isAgg142
 z53 := Tryz.sizeOf142
 v53 := Tryz.zeroValue142 }
theorem Tryz.bits_Len (x : Int) (w : World) (h0 : 0 ≤ x) (h1 : x ≤ 18446744073709551615) :
  Calls Tryz.prog 101 #[.int .u64 x] w fun e w' => e = .returned (.int .i64 (Lib.bitLen x.toNat)) ∧ w' = w := Any.bits_Len Tryz.lays125 x w h0 h1
def Tryz.lays215_ren : Go.Shelf.Ren := ⟨fun | 215 => 162 | n => n, fun | 3 => 3 | 4 => 4 | n => n, fun | n => n⟩
theorem Tryz.lays215 : Go.Proofs.Lays.n215 Tryz.prog Tryz.lays215_ren := {
 mixed := by kernel_rfl
 f215 := Tryz.func162.trans (congrArg some (by kernel_rfl))
 t3 := Tryz.underlying3
 a3 := Tryz.isAgg3
 z3 := Tryz.sizeOf3
 v3 := Tryz.zeroValue3
 t4 := Tryz.underlying4
 a4 := Tryz.isAgg4
 z4 := Tryz.sizeOf4
 v4 := Tryz.zeroValue4 }
open Go.RowKit in
theorem Tryz.cmp_isNaN_int (x : Int) (w : World) :
  Calls Tryz.prog 162 #[.int .i64 x] w fun e w' => e = .returned (.bool false) ∧ w' = w := Any.cmp_isNaN_int Tryz.lays215 x w
def Tryz.lays129_ren : Go.Shelf.Ren := ⟨fun | 129 => 123 | n => n, fun | 53 => 142 | 3 => 3 | 4 => 4 | 46 => 125 | 5 => 5 | 9 => 9 | n => n, fun | n => n⟩
theorem Tryz.lays129 : Go.Proofs.Lays.n129 Tryz.prog Tryz.lays129_ren := {
 mixed := by kernel_rfl
 f129 := Tryz.func123.trans (congrArg some (by kernel_rfl))
 t3 := Tryz.underlying3
 a3 := Tryz.isAgg3
 z3 := Tryz.sizeOf3
 v3 := Tryz.zeroValue3
 t4 := Tryz.underlying4
 a4 := Tryz.isAgg4
 z4 := Tryz.sizeOf4
 v4 := Tryz.zeroValue4
 t5 := Tryz.underlying5
 a5 := Tryz.isAgg5
 z5 := Tryz.sizeOf5
 v5 := Tryz.zeroValue5
 t9 := Tryz.underlying9
 a9 := Tryz.isAgg9
 z9 := Tryz.sizeOf9
 v9 := Tryz.zeroValue9
 t46 := Tryz.underlying125
 a46 := Tryz.isAgg125
 z46 := Tryz.sizeOf125
 v46 := Tryz.zeroValue125
 t53 := Tryz.underlying142
 a53 := Tryz.isAgg142
 z53 := Tryz.sizeOf142
 v53 := Tryz.zeroValue142 }
theorem Tryz.bits_Len64 (x : Int) (w : World) (h0 : 0 ≤ x) (h1 : x ≤ 18446744073709551615) :
  Calls Tryz.prog 123 #[.int .u64 x] w fun e w' => e = .returned (.int .i64 (Lib.bitLen x.toNat)) ∧ w' = w := Any.bits_Len64 Tryz.lays129 x w h0 h1
def Tryz.lays189_ren : Go.Shelf.Ren := ⟨fun | 189 => 71 | 125 => 101 | 257 => 100 | 128 => 122 | 129 => 123 | 294 => 113 | 295 => 114 | 296 => 115 | 297 => 116 | 298 => 117 | 299 => 118 | 216 => 119 | 300 => 120 | 301 => 121 | 328 => 157 | 329 => 158 | 330 => 159 | 331 => 160 | 332 => 161 | 215 => 162 | 343 => 176 | n => n, fun | 28 => 23 | 3 => 3 | 46 => 125 | 0 => 0 | 51 => 38 | 53 => 142 | 4 => 4 | 183 => 135 | 182 => 134 | 131 => 89 | 5 => 5 | 9 => 9 | 218 => 153 | 222 => 157 | 228 => 170 | 229 => 171 | n => n, fun | n => n⟩
theorem Tryz.lays189 : Go.Proofs.Lays.n189 Tryz.prog Tryz.lays189_ren := {
 mixed := by kernel_rfl
 f125 := Tryz.func101.trans (congrArg some (by kernel_rfl))
 f128 := Tryz.func122.trans (congrArg some (by kernel_rfl))
 f129 := Tryz.func123.trans (congrArg some (by kernel_rfl))
 f189 := Tryz.func71.trans (congrArg some (by kernel_rfl))
 f215 := Tryz.func162.trans (congrArg some (by kernel_rfl))
 f216 := Tryz.func119.trans (congrArg some (by kernel_rfl))
 f257 := Tryz.func100.trans (congrArg some (by kernel_rfl))
 f294 := Tryz.func113.trans (congrArg some (by kernel_rfl))
 f295 := Tryz.func114.trans (congrArg some (by kernel_rfl))
 f296 := Tryz.func115.trans (congrArg some (by kernel_rfl))
 f297 := Tryz.func116.trans (congrArg some (by kernel_rfl))
 f298 := Tryz.func117.trans (congrArg some (by kernel_rfl))
 f299 := Tryz.func118.trans (congrArg some (by kernel_rfl))
 f300 := Tryz.func120.trans (congrArg some (by kernel_rfl))
 f301 := Tryz.func121.trans (congrArg some (by kernel_rfl))
 f328 := Tryz.func157.trans (congrArg some (by kernel_rfl))
 f329 := Tryz.func158.trans (congrArg some (by kernel_rfl))
 f330 := Tryz.func159.trans (congrArg some (by kernel_rfl))
 f331 := Tryz.func160.trans (congrArg some (by kernel_rfl))
 f332 := Tryz.func161.trans (congrArg some (by kernel_rfl))
 f343 := Tryz.func176.trans (congrArg some (by kernel_rfl))
 t0 := Tryz.underlying0
 a0 := Tryz.isAgg0
 z0 := Tryz.sizeOf0
 v0 := Tryz.zeroValue0
 t3 := Tryz.underlying3
 a3 := Tryz.isAgg3
 z3 := Tryz.sizeOf3
 v3 := Tryz.zeroValue3
 t4 := Tryz.underlying4
 a4 := Tryz.isAgg4
 z4 := Tryz.sizeOf4
 v4 := Tryz.zeroValue4
 t5 := Tryz.underlying5
 a5 := Tryz.isAgg5
 z5 := Tryz.sizeOf5
 v5 := Tryz.zeroValue5
 t9 := Tryz.underlying9
 a9 := Tryz.isAgg9
 z9 := Tryz.sizeOf9
 v9 := Tryz.zeroValue9
 t28 := Tryz.underlying23
 a28 := Tryz.isAgg23
 z28 := Tryz.sizeOf23
 v28 := Tryz.zeroValue23
 t46 := Tryz.underlying125
 a46 := Tryz.isAgg125
 z46 := Tryz.sizeOf125
 v46 := Tryz.zeroValue125
 t51 := Tryz.underlying38
 a51 := Tryz.isAgg38
 z51 := Tryz.sizeOf38
 v51 := Tryz.zeroValue38
 t53 := Tryz.underlying142
 a53 := Tryz.isAgg142
 z53 := Tryz.sizeOf142
 v53 := Tryz.zeroValue142
 t131 := Tryz.underlying89
 a131 := Tryz.isAgg89
 z131 := Tryz.sizeOf89
 v131 := Tryz.zeroValue89
 t182 := Tryz.underlying134
 a182 := Tryz.isAgg134
 z182 := Tryz.sizeOf134
 v182 := Tryz.zeroValue134
 t183 := Tryz.underlying135
 a183 := Tryz.isAgg135
 z183 := Tryz.sizeOf135
 v183 := Tryz.zeroValue135
 t218 := Tryz.underlying153
 a218 := Tryz.isAgg153
 z218 := Tryz.sizeOf153
 v218 := Tryz.zeroValue153
 t222 := Tryz.underlying157
 a222 := Tryz.isAgg157
 z222 := Tryz.sizeOf157
 v222 := Tryz.zeroValue157
 t228 := Tryz.underlying170
 a228 := Tryz.isAgg170
 z228 := Tryz.sizeOf170
 v228 := Tryz.zeroValue170
 t229 := Tryz.underlying171
 a229 := Tryz.isAgg171
 z229 := Tryz.sizeOf171
 v229 := Tryz.zeroValue171 }
open Go.Sort Go.RowKit in
theorem Tryz.slices_Sort_int (blk off cap : Nat) (zs : List Int) (w : World) (hH : Holds (Value.int .i64) w blk off zs.toArray) (hblk : blk < w.heap.size) (hsz : zs.length < 4611686018427387904) :
  Calls Tryz.prog 71 #[.slice (some ⟨blk, off, none⟩) zs.length cap] w fun e w' =>
   e = .returned (.tuple #[]) ∧ ∃ n os, w' = grow (putRow (Value.int .i64) (Sort.ahead w n) blk off (zs.mergeSort fun x y => decide (x ≤ y)).toArray) os := Any.slices_Sort_int Tryz.lays189 blk off cap zs w hH hblk hsz
def Tryz.lays108_ren : Go.Shelf.Ren := ⟨fun | 108 => 62 | n => n, fun | 28 => 23 | 3 => 3 | 0 => 0 | 4 => 4 | n => n, fun | n => n⟩
theorem Tryz.lays108 : Go.Proofs.Lays.n108 Tryz.prog Tryz.lays108_ren := {
 mixed := by kernel_rfl
 f108 := Tryz.func62.trans (congrArg some (by kernel_rfl))
 t0 := Tryz.underlying0
 a0 := Tryz.isAgg0
 z0 := Tryz.sizeOf0
 v0 := Tryz.zeroValue0
 t3 := Tryz.underlying3
 a3 := Tryz.isAgg3
 z3 := Tryz.sizeOf3
 v3 := Tryz.zeroValue3
 t4 := Tryz.underlying4
 a4 := Tryz.isAgg4
 z4 := Tryz.sizeOf4
 v4 := Tryz.zeroValue4
 t28 := Tryz.underlying23
 a28 := Tryz.isAgg23
 z28 := Tryz.sizeOf23
 v28 := Tryz.zeroValue23 }
open Go.Lib in
theorem Tryz.slices_Index_int (b off n c : Nat) (zs : List Int) (x : Int) (w : World) (hz : n ≤ zs.length) (hbig : n ≤ 9223372036854775807) (hc : ∀ j, j < zs.length → w.cell? ⟨b, off + j, none⟩ = some (.int .i64 (zs.getD j 0))) :
  Calls Tryz.prog 62 #[.slice (some ⟨b, off, none⟩) n c, .int .i64 x] w fun e w' => e = .returned (.int .i64 (Lib.idxOf (zs.take n) x)) ∧ w' = w := Any.slices_Index_int Tryz.lays108 b off n c zs x w hz hbig hc
open Go.Lib in
theorem Tryz.slices_Index_int_empty (a : Option Addr) (c : Nat) (x : Int) (w : World) :
  Calls Tryz.prog 62 #[.slice a 0 c, .int .i64 x] w fun e w' => e = .returned (.int .i64 (Lib.idxOf [] x)) ∧ w' = w := Any.slices_Index_int_empty Tryz.lays108 a c x w
def Tryz.lays107_ren : Go.Shelf.Ren := ⟨fun | 107 => 142 | 108 => 62 | n => n, fun | 28 => 23 | 3 => 3 | 4 => 4 | 0 => 0 | n => n, fun | n => n⟩
theorem Tryz.lays107 : Go.Proofs.Lays.n107 Tryz.prog Tryz.lays107_ren := {
 mixed := by kernel_rfl
 f107 := Tryz.func142.trans (congrArg some (by kernel_rfl))
 f108 := Tryz.func62.trans (congrArg some (by kernel_rfl))
 t0 := Tryz.underlying0
 a0 := Tryz.isAgg0
 z0 := Tryz.sizeOf0
 v0 := Tryz.zeroValue0
 t3 := Tryz.underlying3
 a3 := Tryz.isAgg3
 z3 := Tryz.sizeOf3
 v3 := Tryz.zeroValue3
 t4 := Tryz.underlying4
 a4 := Tryz.isAgg4
 z4 := Tryz.sizeOf4
 v4 := Tryz.zeroValue4
 t28 := Tryz.underlying23
 a28 := Tryz.isAgg23
 z28 := Tryz.sizeOf23
 v28 := Tryz.zeroValue23 }
open Go.Lib in
theorem Tryz.slices_Contains_int (b off n c : Nat) (zs : List Int) (x : Int) (w : World) (hz : n ≤ zs.length) (hbig : n ≤ 9223372036854775807) (hc : ∀ j, j < zs.length → w.cell? ⟨b, off + j, none⟩ = some (.int .i64 (zs.getD j 0))) :
  Calls Tryz.prog 142 #[.slice (some ⟨b, off, none⟩) n c, .int .i64 x] w fun e w' => e = .returned (.bool ((zs.take n).contains x)) ∧ w' = w := Any.slices_Contains_int Tryz.lays107 b off n c zs x w hz hbig hc
open Go.Lib in
theorem Tryz.slices_Contains_int_empty (a : Option Addr) (c : Nat) (x : Int) (w : World) :
  Calls Tryz.prog 142 #[.slice a 0 c, .int .i64 x] w fun e w' => e = .returned (.bool false) ∧ w' = w := Any.slices_Contains_int_empty Tryz.lays107 a c x w
def Tryz.lays111_ren : Go.Shelf.Ren := ⟨fun | 111 => 80 | n => n, fun | 28 => 23 | 3 => 3 | 4 => 4 | 0 => 0 | n => n, fun | n => n⟩
theorem Tryz.lays111 : Go.Proofs.Lays.n111 Tryz.prog Tryz.lays111_ren := {
 mixed := by kernel_rfl
 f111 := Tryz.func80.trans (congrArg some (by kernel_rfl))
 t0 := Tryz.underlying0
 a0 := Tryz.isAgg0
 z0 := Tryz.sizeOf0
 v0 := Tryz.zeroValue0
 t3 := Tryz.underlying3
 a3 := Tryz.isAgg3
 z3 := Tryz.sizeOf3
 v3 := Tryz.zeroValue3
 t4 := Tryz.underlying4
 a4 := Tryz.isAgg4
 z4 := Tryz.sizeOf4
 v4 := Tryz.zeroValue4
 t28 := Tryz.underlying23
 a28 := Tryz.isAgg23
 z28 := Tryz.sizeOf23
 v28 := Tryz.zeroValue23 }
open Go.RowKit Go.Lib in
theorem Tryz.slices_Equal_int (b1 o1 n c b2 o2 m d : Nat) (xs ys : List Int) (w : World) (hx : n ≤ xs.length) (hy : m ≤ ys.length) (hbig : n ≤ 9223372036854775807) (hbig2 : m ≤ 9223372036854775807) (hc1 : ∀ j, j < xs.length → w.cell? ⟨b1, o1 + j, none⟩ = some (.int .i64 (xs.getD j 0))) (hc2 : ∀ j, j < ys.length → w.cell? ⟨b2, o2 + j, none⟩ = some (.int .i64 (ys.getD j 0))) :
  Calls Tryz.prog 80 #[.slice (some ⟨b1, o1, none⟩) n c, .slice (some ⟨b2, o2, none⟩) m d] w fun e w' => e = .returned (.bool (xs.take n == ys.take m)) ∧ ∃ q, w' = w.drewN q := Any.slices_Equal_int Tryz.lays111 b1 o1 n c b2 o2 m d xs ys w hx hy hbig hbig2 hc1 hc2
open Go.RowKit Go.Lib in
theorem Tryz.slices_Equal_int_empty (a1 a2 : Option Addr) (c m d : Nat) (w : World) (hbig2 : m ≤ 9223372036854775807) :
  Calls Tryz.prog 80 #[.slice a1 0 c, .slice a2 m d] w fun e w' => e = .returned (.bool (decide (m = 0))) ∧ w' = w := Any.slices_Equal_int_empty Tryz.lays111 a1 a2 c m d w hbig2
def Tryz.laysNm237_ren : Go.Shelf.Ren := ⟨fun | 37 => 162 | n => n, fun | 3 => 3 | 4 => 4 | n => n, fun | n => n⟩
theorem Tryz.laysNm237 : Go.Proofs.Lays2.n37 Tryz.prog Tryz.laysNm237_ren := {
 mixed := by kernel_rfl
 f37 := Tryz.func162.trans (congrArg some (by kernel_rfl))
 t3 := Tryz.underlying3
 a3 := Tryz.isAgg3
 z3 := Tryz.sizeOf3
 v3 := Tryz.zeroValue3
 t4 := Tryz.underlying4
 a4 := Tryz.isAgg4
 z4 := Tryz.sizeOf4
 v4 := Tryz.zeroValue4 }
open Go.RowKit Go.Lib in
theorem Tryz.cmp_isNaN_int2 (x : Int) (w : World) :
  Calls Tryz.prog 162 #[.int .i64 x] w fun e w' => e = .returned (.bool false) ∧ w' = w := Any.cmp_isNaN_int2 Tryz.laysNm237 x w
def Tryz.laysNm231_ren : Go.Shelf.Ren := ⟨fun | 31 => 119 | 37 => 162 | n => n, fun | 3 => 3 | 4 => 4 | n => n, fun | n => n⟩
theorem Tryz.laysNm231 : Go.Proofs.Lays2.n31 Tryz.prog Tryz.laysNm231_ren := {
 mixed := by kernel_rfl
 f31 := Tryz.func119.trans (congrArg some (by kernel_rfl))
 f37 := Tryz.func162.trans (congrArg some (by kernel_rfl))
 t3 := Tryz.underlying3
 a3 := Tryz.isAgg3
 z3 := Tryz.sizeOf3
 v3 := Tryz.zeroValue3
 t4 := Tryz.underlying4
 a4 := Tryz.isAgg4
 z4 := Tryz.sizeOf4
 v4 := Tryz.zeroValue4 }
open Go.RowKit Go.Lib in
theorem Tryz.cmp_Less_int2 (x y : Int) (w : World) :
  Calls Tryz.prog 119 #[.int .i64 x, .int .i64 y] w fun e w' => e = .returned (.bool (decide (x < y))) ∧ w' = w := Any.cmp_Less_int2 Tryz.laysNm231 x y w
open Go.RowKit Go.Sort in
theorem Tryz.slices_Sort_int_none (p : Option Addr) (cap : Nat) (w : World) :
  Calls Tryz.prog 71 #[.slice p 0 cap] w fun e w' => e = .returned (.tuple #[]) ∧ w' = w := Any.slices_Sort_int_none Tryz.lays189 p cap w
open Go.RowKit Go.Lib in
theorem Tryz.slices_Equal_int_lens (a1 a2 : Option Addr) (n c m d : Nat) (w : World) (hnm : n ≠ m) :
  Calls Tryz.prog 80 #[.slice a1 n c, .slice a2 m d] w fun e w' => e = .returned (.bool false) ∧ w' = w := Any.slices_Equal_int_lens Tryz.lays111 a1 a2 n c m d w hnm
end Go.Proofs
namespace Go.Proofs.YtnkocjkkefnelaaGreat
open Go.RowKit
theorem vC {a b : Bool} (h : a = b) : Ending.returned (.bool a) = .returned (.bool b) := by rw [h]
structure Over where
 n : Nat
 os : Array Obj
 deriving Inhabited
def vR (w : World) (p : Over) : World := { w with drawn := p.n, heap := w.heap ++ p.os }
theorem kL (w : World) (p : Over) (k : Nat) (h : k < w.heap.size) : (vR w p).heap[k]? = w.heap[k]? := by
 simp [vR, Array.getElem?_append, h]
theorem uR (w : World) (p : Over) {b o : Nat} {v : Value} (hb : b < w.heap.size) (h : w.cell? ⟨b, o, none⟩ = some v) : (vR w p).cell? ⟨b, o, none⟩ = some v := by
 rw [← h]; exact World.cell?_of_block (kL w p b hb)
theorem vF (w : World) (p : Over) : Below w.heap.size w (vR w p) :=
 ⟨rfl, rfl, rfl, by simp [vR], fun k hk => kL w p k hk⟩
theorem below_over {w w' : World} (h : Below w.heap.size w w') : ∃ p : Over, w' = vR w p := by
 refine ⟨⟨w'.drawn, w'.heap.extract w.heap.size w'.heap.size⟩, ?_⟩
 obtain ⟨h1, h2, h3, h4, h5⟩ := h
 cases w with | mk heap tape drawn os output =>
 cases w' with | mk heap' tape' drawn' os' output' =>
 simp only at h1 h2 h3 h4 h5
 subst h1 h2 h3
 simp only [vR, World.mk.injEq, and_true]
 apply Array.ext_getElem?
 intro i
 by_cases hi : i < heap.size
 ·rw [h5 i hi]; simp [Array.getElem?_append, hi]
 ·simp only [Array.getElem?_append, hi, if_false]
  rw [Array.getElem?_extract]
  split
  ·congr 1; omega
  ·rw [Array.getElem?_eq_none (by omega)]
theorem over_over (w : World) (p q : Over) : ∃ r : Over, vR (vR w p) q = vR w r :=
 ⟨⟨q.n, p.os ++ q.os⟩, by simp [vR, Array.append_assoc]⟩
theorem uT {P : Program} {id : Nat} {Q : Exit → Act → World → Prop} {a : Act} {w : World} {l : List Oper} (hm : P.follows .mixedOrders = true) (hB : Region.lexB .any l.toArray = true)
  (h : wpQuiet P l.toArray (fun w' => ∃ p : Over, w' = vR w p) (fun a' => ∀ w', (∃ p : Over, w' = vR w p) → Q .normal a' w') l a) : (Code.region id l.toArray true).wp P Q a w :=
 wp_region_quiet (C := fun w' => ∃ p : Over, w' = vR w p) hm hB ⟨⟨w.drawn + 1, #[]⟩, by simp [vR]⟩ (by simpa using h)
theorem wU {w : World} {cs : Array Value} {t : TypeId} {X : World → Prop}
  (h : ∀ W, Below w.heap.size w W → w.heap.size < W.heap.size → (∀ j v, cs[j]? = some v → W.cell? ⟨w.heap.size, j, none⟩ = some v) → X W) : X (w.alloc (.cells cs t)) :=
 h _ ((Below.refl _ _).alloc (Nat.le_refl _) _) (by simp) (fun j v hj => by
  have hp : (w.alloc (.cells cs t)).heap[w.heap.size]? = some (.cells cs t) := by show (w.heap.push _)[w.heap.size]? = _; simp
  rw [← hj]; simp only [World.cell?, hp]; simp)
theorem vV {P : Program} {f : FuncId} {args : Array Value} {w : World} {p : Over} {v : Value}
  (h : Calls P f args (vR w p) fun e w' => e = .returned v ∧ Below (vR w p).heap.size (vR w p) w') : Calls P f args (vR w p) fun e w'' => e = .returned v ∧ ∃ q : Over, w'' = vR w q :=
 h.mono fun _ _ ⟨he, hb⟩ => ⟨he, by obtain ⟨q, rfl⟩ := below_over hb; exact over_over w p q⟩
open Go.RowKit Go.Sort
def sortMax : Nat := 12
abbrev encU : Int → Value := Value.int .u32
theorem isNaN_u (x : Int) (w : World) : Calls Tryz.prog 180 #[.int .u32 x] w fun e w' => e = .returned (.bool false) ∧ w' = w := by
 go_enter Tryz.func180, Tryz.ntmps180
 go_wp2
 go_ret
 exact ⟨by simp, rfl⟩
theorem wB (x y : Int) (w : World) : Calls Tryz.prog 169 #[.int .u32 x, .int .u32 y] w fun e w' => e = .returned (.bool (ltInt x y)) ∧ w' = w := by
 go_enter Tryz.func169, Tryz.ntmps169
 go_wp2_with (go_at_call 180; refine (isNaN_u _ _).mono ?_; rintro e w' ⟨rfl, rfl⟩)
 go_ret
 exact ⟨rfl, rfl⟩
theorem insertion_u (blk off cap a b : Nat) (d : Array Int) (w : World) (hH : Holds encU w blk off d) (hab : a ≤ b) (hb : b ≤ d.size) (hsz : d.size < 4611686018427387904) :
  Calls Tryz.prog 163 #[.slice (some ⟨blk, off, none⟩) d.size cap, .int .i64 a, .int .i64 b] w fun e w' =>
   e = .returned (.tuple #[]) ∧ ∃ n, w' = putRow encU (Sort.ahead w n) blk off (Sort.insertionSort ltInt d a b) := by
 go_enter Tryz.func163, Tryz.ntmps163
 go_wp2
 go_loopw [6] (fun vi wr => ∃ (i n : Nat) (dk : Array Int), vi = .int .i64 i ∧ a < i ∧ i ≤ b + 1 ∧ dk.size = d.size ∧ wr = putRow encU (Sort.ahead w n) blk off dk ∧
   insOuter ltInt a b i dk = insOuter ltInt a b (a + 1) d) (fun vi _ => b + 1 - (RowKit.intOf vi).toNat)
 case atStart => exact ⟨a + 1, 0, d, by go_num, by omega, by omega, rfl, (putRow_self _ _ _ _ _ hH).symm, rfl⟩
 case round =>
  obtain ⟨i, n, dk, rfl, hai, hib, hsk, hwr, hO⟩ := hrel
  have HO := Lib.hid hO
  clear hO
  by_cases hlt : i < b
  ·go_wp2
   go_loopw [7] (fun vj w2 => ∃ (j m : Nat) (dj : Array Int), vj = .int .i64 j ∧ a ≤ j ∧ j ≤ i ∧ dj.size = d.size ∧ w2 = putRow encU (Sort.ahead w m) blk off dj ∧
     insInner ltInt a j dj = insInner ltInt a i dk) (fun vj _ => (RowKit.intOf vj).toNat)
   case atStart => exact ⟨i, n, dk, rfl, by omega, Nat.le_refl _, hsk, rfl, rfl⟩
   case round =>
    obtain ⟨j, m, dj, rfl, haj, hji, hsj, hw2, hI⟩ := hrel
    obtain ⟨G, hG⟩ : ∃ G : Nat → Int, ∀ t, G t = dj[t]! := ⟨fun t => dj[t]!, fun _ => rfl⟩
    have hcw : ∀ t, t < d.size → wr.cell? ⟨blk, off + t, none⟩ = some (.int .u32 (G t)) := fun t ht => by
     rw [hw2, hG]; exact cell?_putRow _ _ _ _ d dj (holds_ahead _ _ _ _ _ _ hH) hsj t (by omega)
    have hfw : ∀ t, t < d.size → wr.frozen? ⟨blk, off + t, none⟩ = false := fun t ht => by
     rw [hw2, frozen?_putRow]; exact ((holds_ahead _ _ m _ _ _ hH) t ht).2
    have HW := Lib.hid hw2
    have HG := Lib.hid hG
    have HI := Lib.hid hI
    clear hw2 hG hI
    have OUT : Hid ((j ≤ a ∨ ltInt (G j) (G (j - 1)) = false) → ∀ q, wr.drewN q = putRow encU (Sort.ahead w (m + q)) blk off dj ∧ insOuter ltInt a b (i + 1) dj = insOuter ltInt a b (a + 1) d) := Lib.hid (fun hs q =>
     ⟨by rw [HW.out]; exact putRow_drewN _ _ _ _ _ _ _, by rw [← HO.out, insOuter_go _ _ _ _ _ hlt, ← HI.out, insInner_stop _ _ _ _ (by rw [← HG.out, ← HG.out]; exact hs)]⟩)
    by_cases hja : a < j
    ·cases hl : ltInt (G j) (G (j - 1)) with
     | true =>
      have HL := Lib.hid hl
      have LT := Lib.hid (fun w => wB (G j) (G (j - 1)) w)
      clear hl
      go_wp2
      go_quiet ((go_at_call 169; have t := LT.out; rw [HL.out] at t; refine Calls.quiet_of_same (t _)))
      go_wp2
      go_region
      all_goals go_wp2
      go_roundw
      case rel =>
       refine ⟨j - 1, m + (nq + 1), swp dj j (j - 1), by congr 1; omega, by omega, by omega, by rw [size_swp]; exact hsj, ?_, ?_⟩
       ·rw [HW.out, HG.out, HG.out]
        exact swap_worldA _ w m (nq + 1) blk off dj j (j - 1) (by omega) (by omega)
       ·rw [← HI.out, insInner_go ltInt a j dj hja (by rw [← HG.out, ← HG.out]; exact HL.out)]
      case measure => simp [RowKit.intOf]; omega
     | false =>
      have HL := Lib.hid hl
      have LT := Lib.hid (fun w => wB (G j) (G (j - 1)) w)
      clear hl
      go_wp2
      go_quiet ((go_at_call 169; have t := LT.out; rw [HL.out] at t; refine Calls.quiet_of_same (t _)))
      go_wp2
      go_roundw
      case rel => exact ⟨i + 1, m + nq, dj, by go_num, by omega, by omega, hsj, (OUT.out (Or.inr HL.out) nq).1, (OUT.out (Or.inr HL.out) nq).2⟩
      case measure => simp [RowKit.intOf]; omega
    ·have hja2 : decide (a < j) = false := by simpa using hja
     go_wp2
     go_quiet (fail)
     go_wp2
     go_roundw
     case rel => exact ⟨i + 1, m + nq, dj, by go_num, by omega, by omega, hsj, (OUT.out (Or.inl (by omega)) nq).1, (OUT.out (Or.inl (by omega)) nq).2⟩
     case measure => simp [RowKit.intOf]; omega
  ·go_wp2
   go_end0
   exact ⟨rfl, n, by unfold Sort.insertionSort; rw [← HO.out, insOuter_stop _ _ _ _ _ hlt]⟩
open Go.RowKit Go.Shelf Go.Maps Go.Sort
theorem xV (enc : Int → Value) {w : World} {g : Nat} {cur : Array Value} {e : TypeId} {ss : List Int} (hb : w.heap[g]? = some (.cells cur e (0, 0))) (ht : cur.toList.take ss.length = ss.map enc) : Holds enc w g 0 ss.toArray := by
 intro j hj
 have hj' : j < ss.length := by simpa using hj
 refine ⟨?_, by simp [World.frozen?, hb]⟩
 have h1 : (cur.toList.take ss.length)[j]? = (ss.map enc)[j]? := by rw [ht]
 rw [List.getElem?_take_of_lt hj'] at h1
 simp only [World.cell?, hb, Nat.zero_add]
 simp only [Option.isSome_none, Bool.false_eq_true, if_false]
 rw [← Array.getElem?_toList, h1]
 simp [hj']
theorem heap_sortedE (enc : Int → Value) {w : World} {g n : Nat} {os : Array Obj} {cur : Array Value} {e : TypeId} {fr : Nat × Nat} (d : Array Int) (hb : w.heap[g]? = some (.cells cur e fr)) :
  (grow (putRow enc (Sort.ahead w n) g 0 d) os).heap[g]? = some (.cells (putCells enc 0 d cur) e fr) := by
 have hg : g < w.heap.size := (Array.getElem?_eq_some_iff.1 hb).1
 rw [heap_grow_old _ _ (by simpa using hg)]
 simp [putRow, mapBlock, Sort.ahead, Array.getElem?_modify, hb, onCells]
theorem bG (enc : Int → Value) {w : World} {g n : Nat} {os : Array Obj} (d : Array Int) : w.grownBy (grow (putRow enc (Sort.ahead w n) g 0 d) os) (some g) := by
 refine ⟨rfl, rfl, rfl, by simp, fun k hk hne => ?_⟩
 rw [heap_grow_old _ _ (by simpa using hk)]
 have : g ≠ k := fun e => hne (by rw [e])
 simp [putRow, mapBlock, Sort.ahead, Array.getElem?_modify, this]
theorem take_putCellsE (enc : Int → Value) (cur : Array Value) (ts : List Int) (h : ts.length ≤ cur.size) : (putCells enc 0 ts.toArray cur).toList.take ts.length = ts.map enc := by
 apply List.ext_getElem?
 intro j
 by_cases hj : j < ts.length
 ·rw [List.getElem?_take_of_lt hj, Array.getElem?_toList]
  simp [putCells, hj, show j < cur.size by omega]
 ·rw [List.getElem?_take_eq_none (by omega), List.getElem?_eq_none (by simp; omega)]
theorem bD (enc : Int → Value) {w : World} {base g cap n : Nat} {e : TypeId} {os : Array Obj} {cur : Array Value} {ss ts : List Int} (hl : ts.length = ss.length) (hbase : base ≤ g) (hb : w.heap[g]? = some (.cells cur e (0, 0)))
  (h1 : ss.length ≤ cap) (h2 : cap ≤ maxLen) (h3 : cur.size = cap * 1) :
  (grow (putRow enc (Sort.ahead w n) g 0 ts.toArray) os).ownsRow base e 1 (.slice (some ⟨g, 0, none⟩) ss.length cap) ss.length (ts.map enc) :=
 ⟨by simp [hl], .inr ⟨g, cap, _, rfl, hbase, heap_sortedE enc _ hb, h1, h2, by simp [putCells, h3], by rw [Nat.mul_one, ← hl]; exact take_putCellsE enc cur ts (by omega)⟩⟩
def KeysAre {H : Type} (D0 : DataW H) (ss : List Int) : Prop := ss.Nodup ∧ ∀ x, x ∈ ss ↔ has D0 (.int .u32 x) = true
def CollectedU {H : Type} (D0 : DataW H) (left : Lit → Bool) (ss : List Int) : Prop := ss.Nodup ∧ ∀ x, x ∈ ss ↔ (has D0 (.int .u32 x) = true ∧ left (.int .u32 x) = false)
theorem CollectedU.start {H : Type} (D0 : DataW H) : CollectedU D0 (has D0) [] := ⟨List.nodup_nil, fun x => by cases has D0 (.int .u32 x) <;> simp⟩
theorem CollectedU.step {H : Type} {D0 : DataW H} {left : Lit → Bool} {ss : List Int} (h : CollectedU D0 left ss) {x : Int} {y : DataW H} (hlk : left (.int .u32 x) = true) (hat : ∀ zd, D0.atKey (.int .u32 x) zd = y) :
  CollectedU D0 (fun z => left z && !z.sameKey (.int .u32 x)) (ss ++ [x]) := by
 have hhas : has D0 (.int .u32 x) = true := has_true_of_atKey hat
 have hnew : x ∉ ss := fun hx => by have := ((h.2 x).1 hx).2; rw [hlk] at this; cases this
 refine ⟨List.nodup_append.2 ⟨h.1, by simp, fun a ha b hb => by simp at hb; subst hb; exact fun e => hnew (e ▸ ha)⟩, fun y => ?_⟩
 by_cases hy : y = x
 ·subst hy; simp [hhas, Lit.sameKey]
 ·simp [h.2 y, hy, Lit.sameKey]
theorem CollectedU.done {H : Type} {D0 : DataW H} {left : Lit → Bool} {ss : List Int} (h : CollectedU D0 left ss) (hl : ∀ kl, left kl = false) : KeysAre D0 ss := ⟨h.1, fun x => by rw [h.2 x, hl]; simp⟩
theorem rG : Keyed Tryz.prog 38 := int_keyed Tryz.underlying38
set_option maxRecDepth 100000 in
set_option maxHeartbeats 1000000 in
theorem keys1_u {H : Type} (F : Fence) (hF : ∀ f, F.fn f) (n : Nat) (hro : F.round = none) (hn : 1 ≤ n) (l Bm b nn : Nat) (D0 : DataW H) (J Jx : List Int → World → Prop)
  (hY : ∀ pre x W, J pre W → pre.length < Maps.size D0 → YieldAt F (n - 1) Tryz.prog l #[.int .u32 x] W fun e W' =>
   (e = .returned (.bool true) ∧ J (pre ++ [x]) W' ∧ KeepsWalks W W') ∨ (e = .returned (.bool false) ∧ Jx (pre ++ [x]) W'))
  (W : World) (hJ : AbidesFrom W.heap.size J) (hm : W.cell? ⟨Bm, 0, none⟩ = some (.map (some b))) (hown : W.ownsMap Tryz.prog 38 (plainElem Tryz.prog 3) b nn D0) (h0 : J [] W) :
  CallsIn F n Tryz.prog 104 #[.func (.yield l) #[] #[], .pointer (some ⟨Bm, 0, none⟩)] W fun e W' => (∃ v, e = .returned v) ∧
   ((∃ ss : List Int, KeysAre D0 ss ∧ J ss W') ∨ (∃ pre : List Int, True ∧ Jx pre W')) := by
 refine callsIn_of_wp Tryz.func104 rfl (hF _) ?_ hro
 simp only [Tryz.ntmps104, List.size_toArray, List.length_cons, List.length_nil, Nat.reduceAdd, Nat.reduceSub, Array.replicate_succ, Array.replicate_zero, List.push_toArray, List.append_toArray, List.nil_append, List.cons_append]
 gi_wp2_with (first
  | (gi_at_range; refine wpListIn_range_own _ rfl _ 103 rfl 38 3 rG Tryz.underlying103 _ b nn _ rfl hown ?_; intro w0 hrg0 hg0 hs0)
  | gi_in)
 go_frame
 gi_loopw [3] (fun _ wr => ∃ (left : Lit → Bool) (cnt : Nat) (ss : List Int), wr.ranges Tryz.prog 38 (plainElem Tryz.prog 3) b W.heap.size nn D0 left cnt ∧ ss.length + cnt ≤ Maps.size D0 ∧ CollectedU D0 left ss ∧ J ss wr)
  (fun _ wr => wr.rangeLeft b W.heap.size)
 case atStart =>
  exact ⟨_, _, [], hrg0, by simp, CollectedU.start D0, hJ [] W w0 none h0 hg0 (fun r e => by cases e)⟩
 case round =>
  obtain ⟨left, cnt, ss, hrg, hcs, hC, hJs⟩ := hrel
  gi_wp2_with (first
   | (gi_at_next; refine wpListIn_next_ranges_ii _ rfl _ rfl 38 3 .u32 .i64 rG Tryz.underlying38 Tryz.underlying3 b W.heap.size nn _ _ _ rfl hrg ?_ ?_)
   | gi_in)
  ·intro hc0 hl0
   gi_wp2
   go_end0
   exact ⟨⟨_, rfl⟩, .inl ⟨ss, hC.done hl0, hJs⟩⟩
  ·intro x c w2 cnt2 hwx hwc hlk hat hrg2 hlt hg2 hs2 hen
   have hJ2 : J ss w2 := hJ ss wr w2 (some W.heap.size) hJs hg2 (fun r e => by cases e; exact ⟨Nat.le_refl _, hrg.iter_walk⟩)
   obtain ⟨fn, tmps, assign, body, hy, hR⟩ := hY ss x w2 hJ2 (by omega)
   clear hs2
   gi_wp2
   refine hR.mono ?_
   rintro e W3 (⟨rfl, hJ3, hk3⟩ | ⟨rfl, hJx3⟩)
   ·gi_wp2
    have hrg3 := hrg2.of_walks hk3
    go_roundw
    case rel => exact ⟨_, cnt2, ss ++ [x], hrg3, by simp; omega, hC.step hlk hat, hJ3⟩
    case measure => rw [hrg3.left_eq, hrg.left_eq]; exact hlt
   ·gi_wp2
    refine bodyPost_ret (results_none rfl _ _ _) rfl ?_
    exact ⟨⟨_, rfl⟩, .inr ⟨_, trivial, hJx3⟩⟩
set_option maxHeartbeats 1000000 in
theorem keys_u (F : Fence) (hF : ∀ f, F.fn f) (n : Nat) (hro : F.round = none) (mb : Option Nat) (w : World) :
  CallsIn F n Tryz.prog 75 #[.map mb] w fun e w' => e = .returned (.func (.func 104) #[] #[.pointer (some ⟨w.heap.size, 0, none⟩)]) ∧ w' = w.alloc (.cells #[.map mb] 103) := by
 refine callsIn_of_wp Tryz.func75 rfl (hF _) ?_ hro
 simp only [Tryz.ntmps75, List.size_toArray, List.length_cons, List.length_nil, Nat.reduceAdd, Nat.reduceSub, Array.replicate_succ, Array.replicate_zero, List.push_toArray, List.append_toArray, List.nil_append, List.cons_append]
 gi_wp2
 go_ret
 exact ⟨rfl, rfl⟩
theorem keys_stops {H : Type} (F : Fence) (hF : ∀ f, F.fn f) (n : Nat) (hro : F.round = none) (hn : 1 ≤ n) (Bm b nn : Nat) (D0 : DataW H) (w : World) (hBm : Bm < w.heap.size)
  (hm : w.cell? ⟨Bm, 0, none⟩ = some (.map (some b))) (hown : w.ownsMap Tryz.prog 38 (plainElem Tryz.prog 3) b nn D0) :
  SeqStopsK F n Tryz.prog 104 #[.pointer (some ⟨Bm, 0, none⟩)] (fun x : Int => #[.int .u32 x]) KeepsWalks (KeysAre D0) (fun _ => True) (Maps.size D0) w := fun l J Jx W hW hJ hJx hY h0 => by
 have hown' : W.ownsMap Tryz.prog 38 (plainElem Tryz.prog 3) b nn D0 := by
  have hbl := hown.lt
  obtain ⟨es, clock, hb, Ft, hs, hD⟩ := hown
  exact ⟨es, clock, (hW.block b hbl).trans hb, Ft, hs, hD⟩
 exact keys1_u F hF n hro hn l Bm b nn D0 J Jx hY W hJ ((hW.cell (p := ⟨Bm, 0, none⟩) hBm).trans hm) hown' h0
def RowOf (n₀ : Nat) (W : World) (sv : Value) (zs : List Int) : Prop :=
 ((∃ a c, sv = .slice a 0 c) ∧ zs = []) ∨ ∃ b off cap, sv = .slice (some ⟨b, off, none⟩) zs.length cap ∧ b < n₀ ∧ ∀ j, j < zs.length → W.cell? ⟨b, off + j, none⟩ = some (.int .i64 (zs.getD j 0))
theorem RowOf.below {n₀ : Nat} {A B : World} (h : Below n₀ A B) {sv : Value} {zs : List Int} : RowOf n₀ A sv zs → RowOf n₀ B sv zs
 | .inl e => .inl e
 | .inr ⟨b, off, cap, e, hb, hc⟩ => .inr ⟨b, off, cap, e, hb, fun j hj => (h.cell (p := ⟨b, off + j, none⟩) hb).trans (hc j hj)⟩
theorem take_succ_getD (zs : List Int) {k : Nat} (hk : k < zs.length) : zs.take (k + 1) = zs.take k ++ [zs.getD k 0] := by
 rw [List.take_succ_eq_append_getElem hk]; simp [List.getD, List.getElem?_eq_getElem hk]
set_option maxRecDepth 100000 in
set_option maxHeartbeats 2000000 in
theorem values1_i (F : Fence) (hF : ∀ f, F.fn f) (n : Nat) (hro : F.round = none) (hn : 1 ≤ n) (l Bs n₀ b off cap : Nat) (zs : List Int) (hreach : zs.length * 8 ≤ 140737488351232) (hb : b < n₀) (J Jx : List Int → World → Prop)
  (hY : ∀ pre x W, J pre W → pre.length < zs.length → YieldAt F (n - 1) Tryz.prog l #[.int .i64 x] W fun e W' =>
   (e = .returned (.bool true) ∧ J (pre ++ [x]) W' ∧ Below n₀ W W') ∨ (e = .returned (.bool false) ∧ Jx (pre ++ [x]) W'))
  (W : World) (hBs : W.cell? ⟨Bs, 0, none⟩ = some (.slice (some ⟨b, off, none⟩) zs.length cap)) (hc : ∀ j, j < zs.length → W.cell? ⟨b, off + j, none⟩ = some (.int .i64 (zs.getD j 0))) (h0 : J [] W) :
  CallsIn F n Tryz.prog 105 #[.func (.yield l) #[] #[], .pointer (some ⟨Bs, 0, none⟩)] W fun e W' => (∃ v, e = .returned v) ∧
   ((∃ ys, ys = zs ∧ J ys W') ∨ (∃ pre : List Int, True ∧ Jx pre W')) := by
 refine callsIn_of_wp Tryz.func105 rfl (hF _) ?_ hro
 simp only [Tryz.ntmps105, List.size_toArray, List.length_cons, List.length_nil, Nat.reduceAdd, Nat.reduceSub, Array.replicate_succ, Array.replicate_zero, List.push_toArray, List.append_toArray, List.nil_append, List.cons_append]
 obtain ⟨len, hlen⟩ : ∃ len, zs.length = len := ⟨_, rfl⟩
 rw [hlen] at hBs hc hY hreach
 gi_wp2
 gi_loopw [7] (fun i wr => ∃ k : Nat, k ≤ len ∧ i = .int .i64 k ∧ J (zs.take k) wr ∧ Below n₀ W wr)
  (fun i _ => len - (intOf i).toNat)
 case atStart => exact ⟨0, Nat.zero_le _, rfl, h0, Below.refl _ _⟩
 case round =>
  obtain ⟨k, hk, rfl, hJs, hnx⟩ := hrel
  have hcx : k < len → wr.cell? ⟨b, off + k, none⟩ = some (.int .i64 (zs.getD k 0)) := fun h => (hnx.cell (p := ⟨b, off + k, none⟩) hb).trans (hc k h)
  by_cases hlt : k < len
  ·obtain ⟨z, hz⟩ : ∃ z, zs.getD k 0 = z := ⟨_, rfl⟩
   obtain ⟨fn, tmps, assign, body, hy, hR⟩ := hY _ z wr hJs (by rw [List.length_take]; omega)
   have hcx' := hcx hlt
   rw [hz] at hcx'
   have HT : Hid (zs.take (k + 1) = zs.take k ++ [z]) := Lib.hid (by rw [← hz]; exact take_succ_getD zs (by omega))
   clear hcx hz
   gi_wp2
   refine hR.mono ?_
   rintro e W3 (⟨rfl, hJ3, hk3⟩ | ⟨rfl, hJx3⟩)
   ·gi_wp2
    go_roundw
    case rel => exact ⟨k + 1, by omega, by simp, by rw [HT.out]; exact hJ3, hnx.trans hk3⟩
    case measure => simp [intOf]; omega
   ·gi_wp2
    refine bodyPost_ret (results_none rfl _ _ _) rfl ?_
    exact ⟨⟨_, rfl⟩, .inr ⟨_, trivial, hJx3⟩⟩
  ·obtain rfl : k = len := by omega
   gi_wp2
   go_end0
   exact ⟨⟨_, rfl⟩, .inl ⟨_, rfl, by have := hJs; rwa [List.take_of_length_le (by omega)] at this⟩⟩
set_option maxHeartbeats 1000000 in
theorem values1_none (F : Fence) (hF : ∀ f, F.fn f) (n : Nat) (hro : F.round = none) (l Bs : Nat) (a : Option Addr) (c : Nat) (J : List Int → World → Prop) (W : World) (hBs : W.cell? ⟨Bs, 0, none⟩ = some (.slice a 0 c)) (h0 : J [] W) :
  CallsIn F n Tryz.prog 105 #[.func (.yield l) #[] #[], .pointer (some ⟨Bs, 0, none⟩)] W fun e W' => (∃ v, e = .returned v) ∧ J [] W' := by
 refine callsIn_of_wp Tryz.func105 rfl (hF _) ?_ hro
 simp only [Tryz.ntmps105, List.size_toArray, List.length_cons, List.length_nil, Nat.reduceAdd, Nat.reduceSub, Array.replicate_succ, Array.replicate_zero, List.push_toArray, List.append_toArray, List.nil_append, List.cons_append]
 gi_wp2
 gi_loopw [7] (fun i wr => i = .int .i64 0 ∧ J [] wr) (fun _ _ => 0)
 case atStart => exact ⟨rfl, h0⟩
 case round =>
  obtain ⟨rfl, hJs⟩ := hrel
  gi_wp2
  go_end0
  exact ⟨⟨_, rfl⟩, hJs⟩
set_option maxHeartbeats 1000000 in
theorem values_i (F : Fence) (hF : ∀ f, F.fn f) (n : Nat) (hro : F.round = none) (a : Option Addr) (len cap : Nat) (w : World) :
  CallsIn F n Tryz.prog 81 #[.slice a len cap] w fun e w' => e = .returned (.func (.func 105) #[] #[.pointer (some ⟨w.heap.size, 0, none⟩)]) ∧ w' = w.alloc (.cells #[.slice a len cap] 23) := by
 refine callsIn_of_wp Tryz.func81 rfl (hF _) ?_ hro
 simp only [Tryz.ntmps81, List.size_toArray, List.length_cons, List.length_nil, Nat.reduceAdd, Nat.reduceSub, Array.replicate_succ, Array.replicate_zero, List.push_toArray, List.append_toArray, List.nil_append, List.cons_append]
 gi_wp2
 go_ret
 exact ⟨rfl, rfl⟩
theorem values_stops (F : Fence) (hF : ∀ f, F.fn f) (n : Nat) (hro : F.round = none) (hn : 1 ≤ n) (Bs n₀ : Nat) (sv : Value) (zs : List Int) (hreach : zs.length * 8 ≤ 140737488351232) (w : World) (hBs : Bs < w.heap.size) (hn₀ : n₀ ≤ w.heap.size)
  (hc : w.cell? ⟨Bs, 0, none⟩ = some sv) (hI : RowOf n₀ w sv zs) :
  SeqStopsK F n Tryz.prog 105 #[.pointer (some ⟨Bs, 0, none⟩)] (fun x : Int => #[Value.int .i64 x]) (Below n₀) (fun ys => ys = zs) (fun _ => True) zs.length w := fun l J Jx W hW _ _ hY h0 => by
 have hc' := (hW.cell (p := ⟨Bs, 0, none⟩) hBs).trans hc
 rcases hI.below (hW.mono hn₀) with ⟨⟨a, c, rfl⟩, rfl⟩ | ⟨b, off, cap, rfl, hb, hcs⟩
 ·exact (values1_none F hF n hro l Bs a c J W hc' h0).mono fun e W' ⟨he, hj⟩ => ⟨he, .inl ⟨_, rfl, hj⟩⟩
 ·exact values1_i F hF n hro hn l Bs n₀ b off cap zs hreach hb J Jx hY W hc' hcs h0
end Go.Proofs.YtnkocjkkefnelaaGreat
