/- Parts. -/
import Derived.MapKept
import Derived.SliceStrings
import Derived.Laws.IdiomStrings
import Derived.Deep.AppendSrc
import Derived.Test.YtjogffchdejabaaGreatDoorPp18
set_option linter.unusedVariables false
set_option linter.unusedSimpArgs false
set_option maxHeartbeats 4000000
namespace Go.Proofs.YtjogffchdejabaaGreatDoor
namespace Ev
open Go
section
variable {P : Program} {w0 w : World} {π : Pl} {h : T AObj} {ρ : Operand → AV} {ρ' : Operand → Value}
theorem zN {β : Type} {t : TypeId} {f : TypeId → Option β} {r : β} (h : sliceE P t f = some r) : ∃ e, P.underlying t = some (.slice e) ∧ f e = some r := by
 obtain ⟨d, h1, h2⟩ := uB h
 cases d <;> first | (cases h2; done) | exact ⟨_, h1, h2⟩
theorem eZ {β : Type} {t : TypeId} {f : Nat} {k : Field → Option β} {r : β} (h : structF P t f k = some r) : ∃ fs g, P.underlying t = some (.struct fs) ∧ fs[f]? = some g ∧ k g = some r := by
 obtain ⟨d, h1, h2⟩ := uB h
 cases d <;> try (cases h2; done)
 obtain ⟨g, h3, h4⟩ := uB h2
 rw [yE] at h3
 exact ⟨_, g, h1, by simpa using h3, h4⟩
theorem yU (b o n : Nat) : (⟨b, o, none⟩ : Addr).add n = ⟨b, o + n, none⟩ := by unfold Addr.add; split <;> simp_all
theorem dJ {z : Value} {zs : List Value} {s : Nat} (hz : z.cells.toList = zs) (hs : zs.length = s) (hpos : 0 < s) (m : Nat) : ((Array.range (m * s)).map (z.cells[· % z.cells.size]!)).toList = (List.replicate m zs).flatten := by
 have hzs : z.cells.size = s := by rw [← Array.length_toList, hz, hs]
 apply List.ext_getElem?
 intro q
 have hL : (List.replicate m zs).flatten.length = m * s := by simp [hs]
 by_cases hq : q < m * s
 ·have hqs : q % s < s := Nat.mod_lt _ hpos
  have h1 : ((List.replicate m zs).flatten)[q]? = zs[q % s]? := by
   clear hL
   induction m generalizing q with
   | zero => omega
   | succ m ih =>
    rw [List.replicate_succ, List.flatten_cons]
    by_cases hq0 : q < s
    ·rw [List.getElem?_append_left (by omega), Nat.mod_eq_of_lt hq0]
    ·rw [List.getElem?_append_right (by omega), hs, ih (q - s) (by rw [Nat.succ_mul] at hq; omega) (Nat.mod_lt _ hpos)]
     rw [← Nat.mod_eq_sub_mod (by omega)]
  rw [h1, ← hz]
  simp only [Array.toList_map, Array.toList_range, List.getElem?_map, List.getElem?_range hq, Option.map_some, hzs]
  rw [getElem!_pos z.cells (q % s) (by omega)]
  simp
 ·rw [List.getElem?_eq_none (by simp; omega), List.getElem?_eq_none (by omega)]
theorem mW {zs : List AV} {vs : List Value} (h : RepL π zs vs) : ∀ m, RepL π (rep m zs) ((List.replicate m vs).flatten) := fun m => by
 rw [sZ]
 induction m with
 | zero => simpa using RepL.nil
 | succ m ih => rw [List.replicate_succ, List.replicate_succ, List.flatten_cons, List.flatten_cons]; exact h.append ih
theorem jJ {π' : Pl} {i b N s n m : Nat} {c : Option Nat} (h : π' i = some ⟨b, 0, N⟩) (h1 : n ≤ m) (h2 : ∀ c', c = some c' → m = c') (h3 : m * s ≤ N) : Rep π' (.sl i 0 s n c) (.slice (some ⟨b, 0, none⟩) n m) := by
 rw [Rep]; exact ⟨_, m, 0, h, rfl, h1, h2, Or.inr rfl, by simpa using h3⟩
theorem lBuildSlice_ok (hρ : ∀ x, Rep π (ρ x) (ρ' x)) {t : TypeId} {n : Nat} {ps : Array (Nat × Operand)} {r : SR} (hl : lBuildSlice P ρ t n ps = some r) : LOk P π ρ' w (.buildSlice t n ps) r := by
 obtain ⟨e, h1, h2⟩ := zN hl
 obtain ⟨inf, h3, h4⟩ := vU h2
 obtain ⟨h5, h6⟩ := uM h4
 obtain ⟨h7, h8⟩ := band h5
 have h7 : n * inf.size ≤ 100000 := vQ h7
 have h8 : 1 ≤ inf.size := vQ h8
 obtain ⟨z, h9, h10⟩ := uB h6
 obtain ⟨cs, h11, h12⟩ := uB h10
 cases h12
 obtain ⟨i, v, g1, g2, g3, g4, g5, g6, _⟩ := yI (π := π) h9
 rw [h3] at g1; cases g1
 have hflat := dJ (z := v) rfl (by simpa using g5) (by omega) n
 obtain ⟨us, e1, e2, e3⟩ := pL (vs := (Array.range (n * inf.size)).map (v.cells[· % v.cells.size]!)) hρ h11 (by rw [hflat]; exact mW g3 n)
 have hus : us.size = n * inf.size := by rw [e3]; simp
 refine ⟨.slice (some ⟨w.heap.size, 0, none⟩) n n, .cells us e, w.drawn, us.size, fun _ _ _ _ _ => ?_, ObjAt.fresh e2 true, fun π' i _ e => jJ e (Nat.le_refl _) (fun c' hc => by cases hc; rfl) (by rw [hus]; exact Nat.le_refl _)⟩
 have n1 : ¬ n * inf.size > 2 ^ 24 := by omega
 by_cases hz0 : n * inf.size = 0
 ·have hn0 : n = 0 := by rcases Nat.mul_eq_zero.1 hz0 with h | h <;> omega
  subst hn0
  have e0 : (Array.range (0 * inf.size)).map (v.cells[· % v.cells.size]!) = #[] := by simp [Array.range_zero']
  rw [e0] at e1
  have n0 : ¬ (0 : Nat) > 2 ^ 24 := by decide
  simp only [execOp, Instr.buildSlice, Sem.run_bind, run_underlying h1, wF h3, Result.andThen_ok, Nat.zero_mul, n0, if_false, Sem.run_ite, Sem.run_pure, if_true, newRow, run_newObj, Array.range_zero', Array.map_empty, Array.toList_map, e1]
 ·simp only [execOp, Instr.buildSlice, Sem.run_bind, run_underlying h1, wF h3, Result.andThen_ok, n1, if_false, Sem.run_pure, hz0, bA h3 g2, newRow, run_newObj, Array.toList_map, e1, Sem.run_ite]
theorem lMakeSlice_ok (hρ : ∀ x, Rep π (ρ x) (ρ' x)) {t : TypeId} {l c : Operand} {r : SR} (hl : lMakeSlice P ρ t l c = some r) : LOk P π ρ' w (.makeSlice t l c) r := by
 obtain ⟨e, h1, h2⟩ := zN hl
 obtain ⟨k, n, h3, h4⟩ := yH h2
 obtain ⟨k', m, h5, h6⟩ := yH h4
 obtain ⟨inf, h7, h8⟩ := vU h6
 obtain ⟨h9, h10⟩ := uM h8
 obtain ⟨h11, h12⟩ := band h9
 obtain ⟨h13, h14⟩ := band h11
 obtain ⟨h15, h16⟩ := band h13
 have h15 : n ≤ m := vQ h15
 have h16 : m ≤ 100000 := vQ h16
 have h14 := vQ h14
 have h12 : 1 ≤ inf.size := vQ h12
 have hb : inf.bytes ≤ 100000 := by simpa [bytesT, h7] using h14
 obtain ⟨z, h17, h18⟩ := uB h10
 cases h18
 obtain ⟨i, v, g1, g2, g3, g4, g5, g6, _⟩ := yI (π := π) h17
 rw [h7] at g1; cases g1
 have hl' := hρ l
 have hc' := hρ c
 rw [h3] at hl'
 rw [h5] at hc'
 have hl' := vD hl'
 have hc' := vD hc'
 have hbm : inf.bytes * m ≤ 100000 * 100000 := Nat.mul_le_mul hb h16
 have hm := run_make (P := P) w t e inf v h1 h7 g2 k k' (.ofNat n) (.ofNat m) (by simp) (by simpa using h15) (by simp only [Int.ofNat_eq_natCast]; rw [← Int.natCast_mul]; omega) (by simp only [Int.ofNat_eq_natCast]; omega)
 have hflat := dJ (z := v) rfl (by simpa using g5) (by omega) m
 have hmc : (madeCells v.cells (m * inf.size)).toList = (List.replicate m v.cells.toList).flatten := by rw [← hflat]; rfl
 have hsz : (madeCells v.cells (m * inf.size)).size = m * inf.size := by simp [madeCells]
 have hr := mW g3 m
 rw [← hmc] at hr
 refine ⟨.slice (some ⟨w.heap.size, 0, none⟩) n m, .cells (madeCells v.cells (m * inf.size)) e, w.drawn, (madeCells v.cells (m * inf.size)).size, fun _ _ _ _ _ => ?_, ObjAt.fresh hr true, fun π' i _ e => jJ e h15 (fun c' hc => by cases hc; rfl) (by rw [hsz]; exact Nat.le_refl _)⟩
 simp only [execOp, hl', hc', Sem.run_bind, hm, Result.andThen_ok, Sem.run_pure]
 rfl
theorem lNilCheck_ok (hρ : ∀ x, Rep π (ρ x) (ρ' x)) {x : Operand} {r : SR} (hl : lNilCheck ρ x = some r) : LOk P π ρ' w (.nilCheck x) r := by
 have hx := hρ x
 unfold lNilCheck at hl
 split at hl <;> cases hl <;> rename_i e <;> rw [e] at hx ⊢ <;> refine ⟨ρ' x, fun _ _ _ _ _ => ?_, hx⟩ <;> rw [Rep] at hx
 ·obtain ⟨L, _, hx⟩ := hx; simp [execOp, hx]
 ·obtain ⟨vs, us, hx, _⟩ := hx; simp [execOp, hx]
 ·obtain ⟨L, _, hx⟩ := hx; simp [execOp, hx]
 ·simp [execOp, hx]
 ·obtain ⟨L, m, a, _, hx, _⟩ := hx; simp [execOp, hx]
 ·obtain ⟨L, _, hx⟩ := hx; simp [execOp, hx]
theorem fX : ∀ (a b : List UInt8), beqL a b = (a == b)
 | [], [] => rfl
 | [], _ :: _ => rfl
 | _ :: _, [] => rfl
 | a :: x, b :: y => by
  show @Bool.rec (fun _ => Bool) false (beqL x y) (Nat.beq a.toNat b.toNat) = _
  rw [fX x y]
  cases hb : Nat.beq a.toNat b.toNat with
  | true =>
   have : a = b := UInt8.toNat_inj.1 (Nat.eq_of_beq_eq_true hb)
   subst this
   simp
  | false =>
   have : a ≠ b := fun e => by subst e; simp at hb
   simp [this]
theorem sE {d : Nat} {eq : TypeId → AV → AV → Option Bool} (he : ∀ t x y b x' y', eq t x y = some b → Rep π x x' → Rep π y y' → ∀ w, (Op.equalIn d t x' y').run P w = .ok b w) {a b : List AV} {a' b' : Array Value} (ha : RepL π a a'.toList) (hb : RepL π b b'.toList) :
  ∀ (fs : List Field) (r : Bool), eqFs P eq a b fs = some r → ∀ w, (Op.eqFields d a' b' fs).run P w = .ok r w
 | [], r, h1, w => by cases h1; simp [Op.eqFields]
 | f :: fs, r, h1, w => by
  rcases xU (show bc (f.name == "_") none (ob (partA P f.type a f.offset) fun x => ob (partA P f.type b f.offset) fun y => ob (eq f.type x y) fun r => bc r (eqFs P eq a b fs) (some false)) = some r from h1) with ⟨h2, h3⟩ | ⟨h2, h3⟩
  ·cases h3
  ·obtain ⟨x, h4, h5⟩ := uB h3
   obtain ⟨y, h6, h7⟩ := uB h5
   obtain ⟨q, h8, h9⟩ := uB h7
   obtain ⟨x', g1, g2⟩ := bQ h4 ha
   obtain ⟨y', g3, g4⟩ := bQ h6 hb
   have g5 := he _ _ _ _ _ _ h8 g2 g4
   have hn : f.name ≠ "_" := by simpa using h2
   unfold Op.eqFields
   rw [if_pos hn]
   simp only [Sem.run_bind, g1, g3, g5, Result.andThen_ok]
   cases q with
   | false => cases h9; simp
   | true =>
    have := sE he ha hb fs r h9 w
    simp only [Bool.not_true, Bool.false_eq_true, if_false, this]
theorem sF {d : Nat} {e : TypeId} {eq : AV → AV → Option Bool} (he : ∀ x y b x' y', eq x y = some b → Rep π x x' → Rep π y y' → ∀ w, (Op.equalIn d e x' y').run P w = .ok b w) {sz : Nat} {a b : List AV} {a' b' : Array Value} (ha : RepL π a a'.toList) (hb : RepL π b b'.toList) :
  ∀ (n i : Nat) (r : Bool), eqEs P eq e sz a b n i = some r → ∀ w, (Op.eqItems d e sz a' b' (List.range' i n)).run P w = .ok r w
 | 0, i, r, h1, w => by cases h1; simp [Op.eqItems]
 | n + 1, i, r, h1, w => by
  obtain ⟨x, h4, h5⟩ := uB (show ob (partA P e a (Nat.mul i sz)) (fun x => ob (partA P e b (Nat.mul i sz)) fun y => ob (eq x y) fun r => bc r (eqEs P eq e sz a b n (Nat.succ i)) (some false)) = some r from h1)
  obtain ⟨y, h6, h7⟩ := uB h5
  obtain ⟨q, h8, h9⟩ := uB h7
  obtain ⟨x', g1, g2⟩ := bQ h4 ha
  obtain ⟨y', g3, g4⟩ := bQ h6 hb
  have g5 := he _ _ _ _ _ h8 g2 g4
  rw [List.range'_succ]
  have g1' : ∀ w, (part e a' (i * sz)).run P w = .ok x' w := g1
  have g3' : ∀ w, (part e b' (i * sz)).run P w = .ok y' w := g3
  simp only [Op.eqItems, Sem.run_bind, g1', g3', g5, Result.andThen_ok]
  cases q with
  | false => cases h9; simp
  | true =>
   have := sF he ha hb n (i + 1) r h9 w
   simp only [Bool.not_true, Bool.false_eq_true, if_false, this]
theorem shp {v : Value} : ∀ x : AV, Rep π x v → match x with
  | .nilp => v = .pointer none
  | .ptr _ _ => ∃ a, v = .pointer (some a)
  | .nils => v = .slice none 0 0
  | .sl _ _ _ _ _ => ∃ a n c, v = .slice (some a) n c
  | .nilm => v = .map none
  | .map _ => ∃ i, v = .map (some i)
  | .nilf => v = .nilFunc
  | .fn _ _ _ => ∃ f a b, v = .func f a b
  | .nili => v = .nilIface
  | .ifc _ _ => ∃ t u, v = .iface t u
  | _ => True := fun x hx => by
 cases x <;> rw [Rep] at hx <;> simp only <;> try trivial
 ·obtain ⟨L, _, hx⟩ := hx; exact ⟨_, hx⟩
 ·obtain ⟨L, m, a, _, hx, _⟩ := hx; exact ⟨_, _, _, hx⟩
 ·obtain ⟨L, _, hx⟩ := hx; exact ⟨_, hx⟩
 ·obtain ⟨vs, us, hx, _⟩ := hx; exact ⟨_, _, _, hx⟩
 ·obtain ⟨u, hx, _⟩ := hx; exact ⟨_, _, hx⟩
theorem nQ : ∀ (d : Nat) (t : TypeId) (x y : AV) (b : Bool) (x' y' : Value), eqT P d t x y = some b → Rep π x x' → Rep π y y' → ∀ n w, (Op.equalIn (n + d) t x' y').run P w = .ok b w
 | 0, t, x, y, b, x', y', h1, _, _, n, w => by cases h1
 | d + 1, t, x, y, b, x', y', h1, hx, hy, n, w => by
  have key : ∀ {a : List AV} {a' : Value}, Rep π (.agg a) a' → ∃ vs, a' = .agg vs ∧ RepL π a vs.toList := fun hh => by rw [Rep] at hh; exact hh
  unfold eqT at h1
  rw [show n + (d + 1) = (n + d) + 1 by omega]
  split at h1
  case h_19 fs a b' hu =>
   obtain ⟨xs, rfl, ha⟩ := key hx
   obtain ⟨ys, rfl, hb⟩ := key hy
   rcases xU h1 with ⟨h2, h3⟩ | ⟨h2, h3⟩
   ·cases h3
   ·have hf : P.fieldsOf t = fs := by simp [Program.fieldsOf, hu]
    rw [run_equalIn_agg w (n + d) t xs ys (by rw [hf]; exact hu) h2, hf]
    exact sE (fun t x y b x' y' e1 e2 e3 w => nQ d t x y b x' y' e1 e2 e3 n w) ha hb _ _ h3 w
  case h_20 m e a b' hu =>
   obtain ⟨xs, rfl, ha⟩ := key hx
   obtain ⟨ys, rfl, hb⟩ := key hy
   obtain ⟨inf, h2, h3⟩ := vU h1
   rw [run_equalIn_array w (n + d) xs ys hu h2]
   have hc : P.cellsOf e = inf.size := by simp [Program.cellsOf, h2]
   rw [hc, List.range_eq_range']
   exact sF (fun x y b x' y' e1 e2 e3 w => nQ d e x y b x' y' e1 e2 e3 n w) ha hb _ _ _ h3 w
  case h_21 => cases h1
  case h_1 hu => cases h1; rw [zO hx, zO hy]; exact run_equalIn_bool' w (n + d) t _ _ hu
  case h_2 hu =>
   obtain ⟨h2, h3⟩ := uM h1
   cases h3
   rw [vD hx, vD hy]
   have := of_decide_eq_true h2
   subst this
   rw [run_equalIn_int w (n + d) t _ _ _ _ hu]
   rfl
  case h_3 hu =>
   cases h1
   rw [Rep] at hx
   rw [Rep] at hy
   obtain ⟨s, rfl, rfl⟩ := hx
   obtain ⟨s', rfl, rfl⟩ := hy
   rw [run_equalIn_string w (n + d) t _ _ hu, fX]
   obtain ⟨s⟩ := s
   obtain ⟨s'⟩ := s'
   rw [ByteArray.toList_mk, ByteArray.toList_mk]
  all_goals
   rename_i hu
   cases h1
   have hx := shp _ hx
   have hy := shp _ hy
   simp only at hx hy
   first
    | subst hx
    | (obtain ⟨a1, hx⟩ := hx; subst hx)
    | (obtain ⟨a1, a2, hx⟩ := hx; subst hx)
    | (obtain ⟨a1, a2, a3, hx⟩ := hx; subst hx)
   first
    | subst hy
    | (obtain ⟨b1, hy⟩ := hy; subst hy)
    | (obtain ⟨b1, b2, hy⟩ := hy; subst hy)
    | (obtain ⟨b1, b2, b3, hy⟩ := hy; subst hy)
   simp [Op.equalIn, run_underlying hu]
end
end Ev
namespace Ev
open Go
section
variable {P : Program} {w0 w : World} {π : Pl} {h : T AObj} {ρ : Operand → AV} {ρ' : Operand → Value}
theorem intOp_ok {op : BinOp} {k : IntKind} {a b : Int} {v : AV} (hs : isSh op = false) (h1 : intOp op k a b = some v) (T : TypeId) : ∃ v', (∀ w, (binOp op T (.int k a) (.int k b)).run P w = .ok v' w) ∧ Rep π v v' := by
 cases op <;> try (cases hs; done)
 all_goals simp only [intOp] at h1
 case quo =>
  split at h1
  ·cases h1
  ·rename_i hb; cases h1
   exact ⟨_, fun w => by simp [binOp, Op.intDiv, hb]; rfl, by rw [Rep]⟩
 case rem =>
  split at h1
  ·cases h1
  ·rename_i hb; cases h1
   exact ⟨_, fun w => by simp [binOp, Op.intDiv, hb]; rfl, by rw [Rep]⟩
 case add => cases h1; exact ⟨_, fun w => by simp [binOp, Op.intArith]; rfl, by rw [Rep]⟩
 case sub => cases h1; exact ⟨_, fun w => by simp [binOp, Op.intArith]; rfl, by rw [Rep]⟩
 case mul => cases h1; exact ⟨_, fun w => by simp [binOp, Op.intArith]; rfl, by rw [Rep]⟩
 case and => cases h1; exact ⟨_, fun w => by simp only [binOp, ne_eq, not_true_eq_false, if_false, Op.intBits, Sem.run_pure]; rfl, by rw [Rep]⟩
 case or => cases h1; exact ⟨_, fun w => by simp only [binOp, ne_eq, not_true_eq_false, if_false, Op.intBits, Sem.run_pure]; rfl, by rw [Rep]⟩
 case xor => cases h1; exact ⟨_, fun w => by simp only [binOp, ne_eq, not_true_eq_false, if_false, Op.intBits, Sem.run_pure]; rfl, by rw [Rep]⟩
 case andNot => cases h1; exact ⟨_, fun w => by simp only [binOp, ne_eq, not_true_eq_false, if_false, Op.intBits, Sem.run_pure]; rfl, by rw [Rep]⟩
 case eql => cases h1; exact ⟨_, fun w => by simp [binOp, Op.intCmp]; rfl, by rw [Rep]; rfl⟩
 case neq => cases h1; exact ⟨_, fun w => by simp [binOp, Op.intCmp]; rfl, by rw [Rep]; rfl⟩
 case lss => cases h1; exact ⟨_, fun w => by simp [binOp, Op.intCmp]; rfl, by rw [Rep]⟩
 case leq => cases h1; exact ⟨_, fun w => by simp [binOp, Op.intCmp]; rfl, by rw [Rep]⟩
 case gtr => cases h1; exact ⟨_, fun w => by simp [binOp, Op.intCmp]; rfl, by rw [Rep]⟩
 case geq => cases h1; exact ⟨_, fun w => by simp [binOp, Op.intCmp]; rfl, by rw [Rep]⟩
theorem shOp_ok {op : BinOp} {k k' : IntKind} {a b : Int} {v : AV} (h1 : shOp op k a b = some v) (T : TypeId) : ∃ v', (∀ w, (binOp op T (.int k a) (.int k' b)).run P w = .ok v' w) ∧ Rep π v v' := by
 unfold shOp at h1
 split at h1
 ·cases h1
  exact ⟨_, fun w => by simp [binOp, Op.shift]; rfl, by rw [Rep]⟩
 ·cases h1
  exact ⟨_, fun w => by simp [binOp, Op.shift]; rfl, by rw [Rep]⟩
 ·cases h1
theorem strOp_ok {op : BinOp} {a b : List UInt8} {x y : Value} {v : AV} (h1 : strOp op a b = some v) (hx : Rep π (.str a) x) (hy : Rep π (.str b) y) (T : TypeId) : ∃ v', (∀ w, (binOp op T x y).run P w = .ok v' w) ∧ Rep π v v' := by
 rw [Rep] at hx
 rw [Rep] at hy
 obtain ⟨⟨s⟩, rfl, rfl⟩ := hx
 obtain ⟨⟨s'⟩, rfl, rfl⟩ := hy
 unfold strOp at h1
 split at h1
 ·obtain ⟨h2, h3⟩ := uM h1
  cases h3
  rw [wJ, wJ] at h2
  have h2 : s.toList.length + s'.toList.length ≤ 1000000 := vQ h2
  refine ⟨.string (⟨s⟩ ++ ⟨s'⟩), fun w => ?_, by rw [Rep]; exact ⟨_, rfl, by simp [xX]⟩⟩
  have hsz : ¬ (((ByteArray.mk s).size + (ByteArray.mk s').size : Nat) : Int) > IntKind.i64.max := by
   have e1 : (ByteArray.mk s).size = s.toList.length := by simp [ByteArray.size]
   have e2 : (ByteArray.mk s').size = s'.toList.length := by simp [ByteArray.size]
   rw [e1, e2]
   have : IntKind.i64.max = 9223372036854775807 := by decide
   omega
  simp only [binOp, Op.stringOp, hsz, if_false, Sem.run_pure]
 ·cases h1
  exact ⟨_, fun w => by simp only [binOp, Op.stringOp, Sem.run_pure]; rfl, by rw [Rep, fX, ByteArray.toList_mk, ByteArray.toList_mk]⟩
 ·cases h1
  exact ⟨_, fun w => by simp only [binOp, Op.stringOp, Sem.run_pure]; rfl, by rw [Rep, fX, ByteArray.toList_mk, ByteArray.toList_mk]⟩
 ·cases h1
theorem run_eqOp {neg : Bool} {T : TypeId} {a b : Value} {r : Bool} (h1 : ∀ n w, (Op.equalIn (n + 4) T a b).run P w = .ok r w) (hb : ∀ k i, a ≠ .int k i) (hs : ∀ s, a ≠ .string s) (hp : ∀ f x, a ≠ .float f x) (hc : ∀ f x y, a ≠ .complex f x y) (w : World) :
  (binOp (bc neg .neq .eql) T a b).run P w = .ok (.bool (bc neg (!r) r)) w := by
 have e : (Op.equal T a b).run P w = .ok r w := h1 9996 w
 cases neg
 ·show (binOp .eql T a b).run P w = .ok (.bool r) w
  have : binOp .eql T a b = (do pure (.bool (← Op.equal T a b))) := by
   unfold binOp
   cases a <;> first | exact (hb _ _ rfl).elim | exact (hs _ rfl).elim | exact (hp _ _ rfl).elim | exact (hc _ _ _ rfl).elim | rfl
  rw [this]
  simp [e]
 ·show (binOp .neq T a b).run P w = .ok (.bool (!r)) w
  have : binOp .neq T a b = (do pure (.bool (!(← Op.equal T a b)))) := by
   unfold binOp
   cases a <;> first | exact (hb _ _ rfl).elim | exact (hs _ rfl).elim | exact (hp _ _ rfl).elim | exact (hc _ _ _ rfl).elim | rfl
  rw [this]
  simp [e]
theorem eqGuard_run {op : BinOp} {T : TypeId} {x y : Operand} {a b : Value} (w : World) (h : a ≠ .nilIface) (h' : ∀ cs, a ≠ .agg cs) : (eqGuard op T x y a b).run P w = .ok () w := by
 cases op <;> cases a <;> first | rfl | exact (h rfl).elim | exact (h' _ rfl).elim
theorem eqT_agg {d : Nat} {t : TypeId} {l : List AV} {y : AV} {r : Bool} (h : eqT P d t (.agg l) y = some r) : ∃ m, y = .agg m := by
 cases d with
 | zero => cases h
 | succ d =>
  unfold eqT at h
  split at h <;> first | (cases h; done) | exact ⟨_, rfl⟩ | skip
  all_goals simp_all
theorem sD {neg : Bool} {T U : TypeId} {x y : Operand} {a b : AV} {r : SR} (hx : Rep π a (ρ' x)) (hy : Rep π b (ρ' y)) (hl : eqOp P neg T y a b = some r) : LOk P π ρ' w (.binOp (bc neg .neq .eql) T x y U) r := by
 have fin : ∀ {d : Nat}, eqRes P neg d T a b = some r → d ≤ 4 → (∀ w, (eqGuard (bc neg .neq .eql) T x y (ρ' x) (ρ' y)).run P w = .ok () w) → (∀ k i, ρ' x ≠ .int k i) → (∀ s, ρ' x ≠ .string s) → (∀ f z, ρ' x ≠ .float f z) → (∀ f z u, ρ' x ≠ .complex f z u) → LOk P π ρ' w (.binOp (bc neg .neq .eql) T x y U) r := fun {d} hq hd hg n1 n2 n3 n4 => by
  obtain ⟨q, h1, h2⟩ := uB hq
  cases h2
  have h3 := nQ (π := π) d T _ _ q _ _ h1 hx hy
  have h4 : ∀ n w, (Op.equalIn (n + 4) T (ρ' x) (ρ' y)).run P w = .ok q w := fun n w => by
   have := h3 (n + (4 - d)) w
   rwa [show n + (4 - d) + d = n + 4 by omega] at this
  refine ⟨.bool (bc neg (!q) q), fun _ _ _ _ _ => ?_, by rw [Rep]⟩
  simp only [execOp, Sem.run_bind, hg, run_eqOp h4 n1 n2 n3 n4, Sem.run_pure, Result.andThen_ok]
 have std : eqRes P neg 1 T a b = some r → ρ' x ≠ .nilIface → (∀ cs, ρ' x ≠ .agg cs) → (∀ k i, ρ' x ≠ .int k i) → (∀ s, ρ' x ≠ .string s) → (∀ f z, ρ' x ≠ .float f z) → (∀ f z u, ρ' x ≠ .complex f z u) → LOk P π ρ' w (.binOp (bc neg .neq .eql) T x y U) r := fun hq m1 m2 n1 n2 n3 n4 =>
  fin hq (by omega) (fun w => eqGuard_run w m1 m2) n1 n2 n3 n4
 have sh := shp _ hx
 unfold eqOp at hl
 cases a <;> simp only at hl sh <;> try (cases hl; done)
 case bool b =>
  have e := zO hx
  exact std hl (by rw [e]; simp) (by rw [e]; simp) (by rw [e]; simp) (by rw [e]; simp) (by rw [e]; simp) (by rw [e]; simp)
 case nili =>
  obtain ⟨h1, h2⟩ := uM hl
  refine fin h2 (by omega) (fun w => ?_) (by rw [sh]; simp) (by rw [sh]; simp) (by rw [sh]; simp) (by rw [sh]; simp)
  rw [sh]
  unfold isC at h1
  cases y <;> try (cases h1; done)
  generalize ρ' (.const _) = b'
  cases neg <;> cases b' <;> first | rfl | (cases x <;> rfl)
 case agg l =>
  obtain ⟨h1, h2⟩ := uM hl
  have h3 : P.eqGuardType P.depth T = false := by simpa using h1
  obtain ⟨q, h4, h5⟩ := uB (show ob (eqT P 4 T (.agg l) b) _ = _ from h2)
  obtain ⟨m, hye⟩ := eqT_agg h4
  have hx' := hx
  have hy' := hy
  rw [Rep] at hx'
  rw [hye, Rep] at hy'
  obtain ⟨vs, e1, _⟩ := hx'
  obtain ⟨us, e2, _⟩ := hy'
  exact fin h2 (by omega) (fun w => by rw [e1, e2]; exact run_eqGuard_agg w _ _ _ _ _ _ h3) (by rw [e1]; simp) (by rw [e1]; simp) (by rw [e1]; simp) (by rw [e1]; simp)
 all_goals
  first
   | exact std hl (by rw [sh]; simp) (by rw [sh]; simp) (by rw [sh]; simp) (by rw [sh]; simp) (by rw [sh]; simp) (by rw [sh]; simp)
   | (obtain ⟨a1, e⟩ := sh; exact std hl (by rw [e]; simp) (by rw [e]; simp) (by rw [e]; simp) (by rw [e]; simp) (by rw [e]; simp) (by rw [e]; simp))
   | (obtain ⟨a1, a2, e⟩ := sh; exact std hl (by rw [e]; simp) (by rw [e]; simp) (by rw [e]; simp) (by rw [e]; simp) (by rw [e]; simp) (by rw [e]; simp))
   | (obtain ⟨a1, a2, a3, e⟩ := sh; exact std hl (by rw [e]; simp) (by rw [e]; simp) (by rw [e]; simp) (by rw [e]; simp) (by rw [e]; simp) (by rw [e]; simp))
theorem lBin_ok (hρ : ∀ x, Rep π (ρ x) (ρ' x)) {op : BinOp} {T U : TypeId} {x y : Operand} {r : SR} (hl : lBin P ρ op T x y = some r) : LOk P π ρ' w (.binOp op T x y U) r := by
 have hx := hρ x
 have hy := hρ y
 have fin : ∀ {v : AV} {v' : Value}, (∀ w, (eqGuard op T x y (ρ' x) (ρ' y)).run P w = .ok () w) → (∀ w, (binOp op T (ρ' x) (ρ' y)).run P w = .ok v' w) → Rep π v v' → LOk P π ρ' w (.binOp op T x y U) (.val v) := fun h1 h2 h3 =>
  ⟨_, fun _ _ _ _ _ => by simp only [execOp, Sem.run_bind, h1, h2, Sem.run_pure, Result.andThen_ok], h3⟩
 unfold lBin at hl
 split at hl
 ·rename_i k a ex
  rw [ex] at hx
  have hx := vD hx
  split at hl
  ·rename_i k' b ey
   rw [ey] at hy
   have hy := vD hy
   have g := fun w => eqGuard_run (P := P) (op := op) (T := T) (x := x) (y := y) (a := ρ' x) (b := ρ' y) w (by rw [hx]; simp) (by rw [hx]; simp)
   rcases xU hl with ⟨h1, h2⟩ | ⟨h1, h2⟩
   ·obtain ⟨v, h3, rfl⟩ := yJ h2
    obtain ⟨v', h4, h5⟩ := shOp_ok (P := P) (π := π) (k' := k') h3 T
    rw [← hx, ← hy] at h4
    exact fin g h4 h5
   ·obtain ⟨h3, h4⟩ := uM h2
    obtain ⟨v, h5, rfl⟩ := yJ h4
    have e := of_decide_eq_true h3
    subst e
    obtain ⟨v', h6, h7⟩ := intOp_ok (P := P) (π := π) h1 h5 T
    rw [← hx, ← hy] at h6
    exact fin g h6 h7
  ·cases hl
 ·rename_i a ex
  rw [ex] at hx
  split at hl
  ·rename_i b ey
   rw [ey] at hy
   obtain ⟨v, h3, rfl⟩ := yJ hl
   obtain ⟨v', h4, h5⟩ := strOp_ok (P := P) (π := π) h3 hx hy T
   rw [Rep] at hx
   obtain ⟨s, hx, _⟩ := hx
   exact fin (fun w => eqGuard_run w (by rw [hx]; simp) (by rw [hx]; simp)) h4 h5
  ·cases hl
 ·split at hl
  ·exact sD (hρ x) (hρ y) hl
  ·exact sD (hρ x) (hρ y) hl
  ·cases hl
end
end Ev
namespace Ev
open Go
section
variable {P : Program} {w0 w : World} {π : Pl} {h : T AObj} {ρ : Operand → AV} {ρ' : Operand → Value}
theorem lUn_ok (hρ : ∀ x, Rep π (ρ x) (ρ' x)) {op : UnOp} {t : TypeId} {x : Operand} {r : SR} (hl : lUn ρ op x = some r) : LOk P π ρ' w (.unOp op t x) r := by
 have hx := hρ x
 unfold lUn at hl
 split at hl
 ·rename_i b e
  cases hl
  rw [e] at hx
  have hx := zO hx
  exact ⟨.bool !b, fun _ _ _ _ _ => by simp [execOp, hx, Op.unary], by rw [Rep]⟩
 ·rename_i k n e
  cases hl
  rw [e] at hx
  have hx := vD hx
  exact ⟨.int k (k.wrap (0 - n)), fun _ _ _ _ _ => by simp only [execOp, hx, Op.unary, Op.intArith, Sem.run_bind, Sem.run_pure, Result.andThen_ok], by rw [Rep]⟩
 ·rename_i k n e
  obtain ⟨v, h1, rfl⟩ := yJ hl
  rw [e] at hx
  have hx := vD hx
  simp only [intOp] at h1
  cases h1
  exact ⟨_, fun _ _ _ _ _ => by simp only [execOp, hx, Op.unary, Op.intBits, Sem.run_bind, Sem.run_pure, Result.andThen_ok]; rfl, by rw [Rep]⟩
 ·cases hl
theorem lConvert_ok (hρ : ∀ x, Rep π (ρ x) (ρ' x)) {a b : TypeId} {x : Operand} {r : SR} (hl : lConvert P ρ a b x = some r) : LOk P π ρ' w (.convert a b x) r := by
 have hx := hρ x
 obtain ⟨da, h1, h2⟩ := uB hl
 obtain ⟨db, h3, h4⟩ := uB h2
 split at h4
 ·rename_i k0 n e
  rw [e] at hx
  have hx := vD hx
  split at h4
  ·rename_i k
   cases h4
   refine ⟨.int k (k.wrap n), fun _ _ _ _ _ => ?_, by rw [Rep]⟩
   have : (convert a b (.int k0 n)).run P w = .ok (.int k (k.wrap n)) w := by
    cases da <;> simp only [convert, run_underlying h1, run_underlying h3, Conv.intToInt, Sem.run_bind, Result.andThen_ok, Sem.run_pure]
   simp only [execOp, hx, Sem.run_bind, this, Sem.run_pure, Result.andThen_ok]
  ·cases h4
 ·rename_i l e
  rw [e, Rep] at hx
  obtain ⟨s, hx, hs⟩ := hx
  split at h4
  ·cases h4
   refine ⟨.string s, fun _ _ _ _ _ => ?_, by rw [Rep]; exact ⟨s, rfl, hs⟩⟩
   have : (convert a b (.string s)).run P w = .ok (.string s) w := by
    cases da <;> simp only [convert, run_underlying h1, run_underlying h3, Sem.run_bind, Result.andThen_ok, Sem.run_pure]
   simp only [execOp, hx, Sem.run_bind, this, Sem.run_pure, Result.andThen_ok]
  ·rename_i el
   obtain ⟨de, h5, h6⟩ := uB h4
   split at h6
   ·obtain ⟨inf, h7, h8⟩ := vU h6
    obtain ⟨h9, h10⟩ := uM h8
    cases h10
    obtain ⟨h11, h12⟩ := band h9
    have hda : da = .string := by cases da <;> first | rfl | (cases h12; done)
    subst hda
    have hr := run_bytes_of_string w a b el s h1 h3 h5
    have hcap := grownCap_ge w s.size 0 el
    generalize grownCap w s.size 0 el = cap at hr hcap
    have hcs : (bytesRow s cap).size = cap := by
     have : s.data.size = s.size := rfl
     simp [bytesRow, this]; omega
    refine ⟨.slice (some ⟨w.heap.size, 0, none⟩) s.size cap, .cells (bytesRow s cap) el ((bytesRow s cap).size, (bytesRow s cap).size + 1), w.drawn + 1, (bytesRow s cap).size, fun _ _ _ _ _ => ?_, ?_, fun π' i e => ?_⟩
    ·simp only [execOp, hx, Sem.run_bind, hr, Sem.run_pure, Result.andThen_ok]
     rfl
    ·refine ⟨bytesRow s cap, el, _, rfl, rfl, fun e => by (cases e), ?_, fun i x hi => ?_⟩
     ·rw [yR, List.length_map, ← hs]
      have : s.data.toList.length = s.size := by rw [Array.length_toList]; rfl
      rw [this]; simp only; omega
     ·rw [yR, List.getElem?_map, ← hs] at hi
      cases hb : s.data.toList[i]? with
      | none => rw [hb] at hi; cases hi
      | some b =>
       rw [hb] at hi
       cases hi
       refine ⟨.int .u8 b.toNat, ?_, by rw [Rep]⟩
       have hb' : s.data[i]? = some b := by simpa using hb
       have hlt : i < s.data.size := (Array.getElem?_eq_some_iff.1 hb').1
       simp only [Nat.zero_add, bytesRow]
       rw [Array.getElem?_append_left (by simpa using hlt)]
       simp [hb']
    ·intro e
     rw [wJ, ← hs]
     have : s.data.toList.length = s.size := by rw [Array.length_toList]; rfl
     rw [this]
     exact jJ e hcap (fun c' hc => by cases hc) (by rw [hcs]; omega)
   ·cases h6
  ·cases h4
 ·cases h4
theorem lIface_ok (hρ : ∀ x, Rep π (ρ x) (ρ' x)) {t : TypeId} {x : Operand} {r : SR} (hl : lIface P ρ t x = some r) : LOk P π ρ' w (.makeInterface t x) r := by
 obtain ⟨d, h1, h2⟩ := uB hl
 cases d <;> first | (cases h2; done) | skip
 all_goals
  cases h2
  exact ⟨.iface t (ρ' x), fun _ _ _ _ _ => by simp [execOp, Instr.makeInterface, run_underlying h1], by rw [Rep]; exact ⟨_, rfl, hρ x⟩⟩
theorem lFunc_ok (hρ : ∀ x, Rep π (ρ x) (ρ' x)) {f : Fn} {fi ca : Array Operand} {r : SR} (hl : lFunc ρ f fi ca = some r) : LOk P π ρ' w (.makeFunc f fi ca) r := by
 unfold lFunc at hl
 split at hl
 ·rename_i g
  cases hl
  refine ⟨.func (.func g) (fi.map ρ') (ca.map ρ'), fun _ _ _ _ _ => by simp [execOp, Instr.makeFunc], ?_⟩
  rw [Rep]
  refine ⟨_, _, rfl, ?_, ?_⟩
  ·rw [yR, Array.toList_map]; exact RepL.map fun x _ => hρ x
  ·rw [yR, Array.toList_map]; exact RepL.map fun x _ => hρ x
 ·cases hl
theorem lMap_ok {t : TypeId} {x : Option Operand} {r : SR} (hl : lMap x = some r) : LOk P π ρ' w (.makeMap t x) r := by
 unfold lMap at hl
 split at hl
 ·cases hl
  refine ⟨.map (some w.heap.size), .map #[] 0, w.drawn, 0, fun _ _ _ _ _ => by simp [execOp, Instr.makeMap, newObj, Sem.run], ⟨#[], rfl, rfl⟩, fun π' i _ e => by rw [Rep]; exact ⟨_, e, rfl⟩⟩
 ·cases hl
theorem lFieldAddr_ok (hρ : ∀ x, Rep π (ρ x) (ρ' x)) {t : TypeId} {x : Operand} {f : Nat} {r : SR} (hl : lFieldAddr P ρ t x f = some r) : LOk P π ρ' w (.fieldAddr t x f) r := by
 obtain ⟨fs, g, h1, h2, h3⟩ := eZ hl
 obtain ⟨inf, h4, h5⟩ := vU h3
 obtain ⟨h6, h7⟩ := uM h5
 obtain ⟨i, o, h8, h9⟩ := bX h7
 cases h9
 have hx := hρ x
 rw [h8, Rep] at hx
 obtain ⟨L, hL, hx⟩ := hx
 have hz : ¬ inf.size = 0 := fun e => by rw [e] at h6; cases h6
 refine ⟨.pointer (some ⟨L.b, L.o + o + g.offset, none⟩), fun _ _ _ _ _ => ?_, by rw [Rep]; exact ⟨L, hL, by rw [Nat.add_assoc]; rfl⟩⟩
 simp only [execOp, hx, Instr.fieldAt, Sem.run_bind, run_underlying h1, Result.andThen_ok, h2, Instr.sureAddr, Sem.run_pure, fieldPlace, wF h4, hz, if_false, yU]
theorem lField_ok (hρ : ∀ x, Rep π (ρ x) (ρ' x)) {t : TypeId} {x : Operand} {f : Nat} {r : SR} (hl : lField P ρ t x f = some r) : LOk P π ρ' w (.field t x f) r := by
 obtain ⟨fs, g, h1, h2, h3⟩ := eZ hl
 obtain ⟨cs, h4, h5⟩ := asAgg_some h3
 obtain ⟨v, h6, rfl⟩ := yJ h5
 have hx := hρ x
 rw [h4, Rep] at hx
 obtain ⟨vs, hx, hc⟩ := hx
 obtain ⟨v', h7, h8⟩ := bQ h6 hc
 exact ⟨v', fun _ _ _ _ _ => by simp only [execOp, hx, Instr.field, Sem.run_bind, run_underlying h1, Result.andThen_ok, h2, Go.asAgg, Sem.run_pure, h7], h8⟩
theorem qK {i n : Nat} (h : i < n) : (0 : Int) ≤ Int.ofNat i ∧ Int.ofNat i < (n : Int) := ⟨Int.natCast_nonneg i, by simpa using h⟩
theorem lIndexAddr_ok (hρ : ∀ x, Rep π (ρ x) (ρ' x)) {t : TypeId} {x ix : Operand} {r : SR} (hl : lIndexAddr P ρ t x ix = some r) : LOk P π ρ' w (.indexAddr t x ix) r := by
 obtain ⟨k, i, h1, h2⟩ := yH hl
 obtain ⟨d, h3, h4⟩ := uB h2
 have hi := hρ ix
 rw [h1] at hi
 have hi : ρ' ix = .int k (i : Int) := vD hi
 have hx := hρ x
 split at h4
 ·rename_i b o e
  rw [e, Rep] at hx
  obtain ⟨L, hL, hx⟩ := hx
  split at h4
  ·rename_i n el
   obtain ⟨inf, h5, h6⟩ := vU h4
   obtain ⟨h7, h8⟩ := uM h6
   cases h8
   have h7 := xW h7
   refine ⟨.pointer (some ⟨L.b, L.o + o + i * inf.size, none⟩), fun _ _ _ _ _ => ?_, by rw [Rep]; exact ⟨L, hL, by rw [Nat.add_assoc]; rfl⟩⟩
   simp only [execOp, hi, hx, Instr.indexAt, asIntOf, Sem.run_bind, Sem.run_pure, run_underlying h3, Result.andThen_ok, Instr.sureAddr, show (0 : Int) ≤ (i : Int) ∧ (i : Int) < (n : Int) from qK h7, and_self, if_true, wF h5, yU, Int.toNat_natCast]
  ·cases h4
 ·rename_i b o s n c e
  rw [e, Rep] at hx
  obtain ⟨L, m, a, hL, hx, g1, g2, g3, g4⟩ := hx
  split at h4
  ·rename_i el
   obtain ⟨inf, h5, h6⟩ := vU h4
   obtain ⟨h7, h8⟩ := uM h6
   cases h8
   obtain ⟨h9, h10⟩ := band h7
   have h9 := xW h9
   have h10 := beq_eq h10
   have ha : a = L.o + o := by rcases g3 with g3 | g3 <;> omega
   subst ha
   refine ⟨.pointer (some ⟨L.b, L.o + o + i * inf.size, none⟩), fun _ _ _ _ _ => ?_, by rw [Rep]; exact ⟨L, hL, by rw [h10, Nat.add_assoc]; rfl⟩⟩
   simp only [execOp, hi, hx, Instr.indexAt, asIntOf, Sem.run_bind, Sem.run_pure, run_underlying h3, Result.andThen_ok, show (0 : Int) ≤ (i : Int) ∧ (i : Int) < (n : Int) from qK h9, and_self, if_true, wF h5, yU, Int.toNat_natCast]
  ·cases h4
 ·cases h4
theorem lIndex_ok (hρ : ∀ x, Rep π (ρ x) (ρ' x)) {t : TypeId} {x ix : Operand} {r : SR} (hl : lIndex P ρ t x ix = some r) : LOk P π ρ' w (.index t x ix) r := by
 obtain ⟨k, i, h1, h2⟩ := yH hl
 obtain ⟨d, h3, h4⟩ := uB h2
 have hi := hρ ix
 rw [h1] at hi
 have hi : ρ' ix = .int k (i : Int) := vD hi
 have hx := hρ x
 split at h4
 ·rename_i cs e
  rw [e, Rep] at hx
  obtain ⟨vs, hx, hc⟩ := hx
  split at h4
  ·rename_i n el
   obtain ⟨inf, h5, h6⟩ := vU h4
   obtain ⟨h7, h8⟩ := uM h6
   obtain ⟨v, h9, rfl⟩ := yJ h8
   have h7 := xW h7
   obtain ⟨v', g1, g2⟩ := bQ h9 hc
   have g1 : ∀ w, (part el vs (i * inf.size)).run P w = .ok v' w := g1
   refine ⟨v', fun _ _ _ _ _ => ?_, g2⟩
   simp only [execOp, hi, hx, Instr.index, asIntOf, Sem.run_bind, Sem.run_pure, run_underlying h3, Result.andThen_ok, show (0 : Int) ≤ (i : Int) ∧ (i : Int) < (n : Int) from qK h7, and_self, if_true, wF h5, Int.toNat_natCast, g1]
  ·cases h4
 ·rename_i l e
  rw [e, Rep] at hx
  obtain ⟨⟨s⟩, hx, hs⟩ := hx
  split at h4
  ·obtain ⟨b, h5, h6⟩ := uB h4
   cases h6
   rw [yE, ← hs] at h5
   have h5' : s[i]? = some b := by simpa using h5
   have hlt : i < s.size := (Array.getElem?_eq_some_iff.1 h5').1
   have hb : (ByteArray.mk s)[i]? = some b := by
    have e1 : (ByteArray.mk s)[i]? = if h : i < (ByteArray.mk s).size then some ((ByteArray.mk s)[i]) else none := rfl
    rw [e1, dif_pos (show i < (ByteArray.mk s).size from hlt)]
    rw [Array.getElem?_eq_getElem hlt] at h5'
    exact h5'
   refine ⟨.int .u8 b.toNat, fun _ _ _ _ _ => ?_, by rw [Rep]⟩
   simp only [execOp, hi, hx, Instr.index, asIntOf, Sem.run_bind, Sem.run_pure, run_underlying h3, Result.andThen_ok, Int.ofNat_eq_natCast, Int.natCast_nonneg, if_true, Int.toNat_natCast, hb]
  ·cases h4
 ·cases h4
theorem lAssert_ok (hρ : ∀ x, Rep π (ρ x) (ρ' x)) {t u : TypeId} {x : Operand} {ok : Bool} {r : SR} (hl : lAssert P ρ x t ok = some r) : LOk P π ρ' w (.typeAssert x u t ok) r := by
 obtain ⟨d, h1, h2⟩ := uB hl
 have hx := hρ x
 have main : (∀ q, d ≠ .interface q) → (match ρ x with
  | .ifc u v => bc (Nat.beq u t) (some (.val (bc ok (.tup [v, .bool true]) v))) (og ok (ob (zeroT P t) fun z => some (.val (.tup [z, .bool false]))))
  | .nili => og ok (ob (zeroT P t) fun z => some (.val (.tup [z, .bool false])))
  | _ => none) = some r → LOk P π ρ' w (.typeAssert x u t ok) r := fun hd hm => by
  split at hm
  ·rename_i u' v e
   rw [e, Rep] at hx
   obtain ⟨v', hx, hv⟩ := hx
   rcases xU hm with ⟨h3, h4⟩ | ⟨h3, h4⟩
   ·cases h4
    have h3 := beq_eq h3
    subst h3
    refine ⟨if ok then .tuple #[v', .bool true] else v', fun _ _ _ _ _ => ?_, ?_⟩
    ·cases d <;> first | exact (hd _ rfl).elim | simp [execOp, hx, Instr.typeAssert, run_underlying h1]
    ·cases ok
     ·exact hv
     ·show Rep π (.tup [v, .bool true]) _
      rw [Rep]; exact ⟨_, rfl, .cons hv (.cons (by rw [Rep]) .nil)⟩
   ·obtain ⟨h5, h6⟩ := uM h4
    obtain ⟨z, h7, h8⟩ := uB h6
    cases h8
    subst h5
    obtain ⟨z', g1, g2⟩ := bK (π := π) h7
    have hne : ¬ u' = t := fun e => by rw [e] at h3; simp at h3
    refine ⟨.tuple #[z', .bool false], fun _ _ _ _ _ => ?_, by rw [Rep]; exact ⟨_, rfl, .cons g2 (.cons (by rw [Rep]) .nil)⟩⟩
    cases d <;> first | exact (hd _ rfl).elim | simp [execOp, hx, Instr.typeAssert, run_underlying h1, hne, g1]
  ·rename_i e
   rw [e, Rep] at hx
   obtain ⟨h5, h6⟩ := uM hm
   obtain ⟨z, h7, h8⟩ := uB h6
   cases h8
   subst h5
   obtain ⟨z', g1, g2⟩ := bK (π := π) h7
   refine ⟨.tuple #[z', .bool false], fun _ _ _ _ _ => ?_, by rw [Rep]; exact ⟨_, rfl, .cons g2 (.cons (by rw [Rep]) .nil)⟩⟩
   cases d <;> first | exact (hd _ rfl).elim | simp [execOp, hx, Instr.typeAssert, run_underlying h1, g1]
  ·cases hm
 cases d <;> first | (cases h2; done) | exact main (fun q => by simp) h2
theorem lExtract_ok (hρ : ∀ x, Rep π (ρ x) (ρ' x)) {x : Operand} {i : Nat} {r : SR} (hl : lExtract ρ x i = some r) : LOk P π ρ' w (.extract x i) r := by
 obtain ⟨l, h1, h2⟩ := asTup_some hl
 obtain ⟨v, h3, rfl⟩ := yJ h2
 have hx := hρ x
 rw [h1, Rep] at hx
 obtain ⟨vs, hx, hc⟩ := hx
 rw [yE] at h3
 obtain ⟨v', h4, h5⟩ := hc.get h3
 have h4' : vs[i]? = some v' := by simpa using h4
 exact ⟨v', fun _ _ _ _ _ => by simp only [execOp, hx, Instr.extract, h4', Sem.run_bind, Sem.run_pure, Result.andThen_ok], h5⟩
end
end Ev
namespace Ev
open Go
section
variable {P : Program} {w0 w : World} {π : Pl} {h : T AObj} {ρ : Operand → AV} {ρ' : Operand → Value}
inductive Bnd (v : Option Value) (d : Nat) : Nat → Prop where
 | no (h : v = none) : Bnd v d d
 | yes {n : Nat} (k : IntKind) (h : v = some (.int k (n : Int))) : Bnd v d n
theorem aL (hρ : ∀ x, Rep π (ρ x) (ρ' x)) {x : Option Operand} {o : Option Nat} (hn : natO ρ x = some o) (d : Nat) : Bnd (x.map ρ') d (od o d) ∧ (o.isSome = x.isSome) := by
 unfold natO at hn
 split at hn
 ·cases hn; exact ⟨.no rfl, rfl⟩
 ·rename_i y
  obtain ⟨k, n, h1, h2⟩ := yH hn
  cases h2
  have hy := hρ y
  rw [h1] at hy
  exact ⟨.yes k (by rw [Option.map_some, vD hy]; rfl), rfl⟩
theorem bN {isS : Bool} {len cap l r : Nat} {lo hi : Option Value} (hl : Bnd lo 0 l) (hr : Bnd hi len r) (h1 : l ≤ r) (h2 : r ≤ cap) (w : World) : (Instr.sliceBounds isS len cap lo hi none).run P w = .ok (l, r, cap) w := by
 have b : ∀ (k : IntKind) (n y : Nat) (code : BoundsCode) (w : World), n ≤ y → (Instr.sliceBound (.int k (n : Int)) y code).run P w = .ok n w := fun k n y code w hy => by
  simp only [Instr.sliceBound, asIntOf, Sem.run_bind, Sem.run_pure, Result.andThen_ok]
  rw [if_pos (by omega)]; simp
 cases hl with
 | no e1 => cases hr with
  | no e2 => subst e1 e2; simp [Instr.sliceBounds]
  | yes k e2 => subst e1 e2; simp only [Instr.sliceBounds, Sem.run_bind, Sem.run_pure, Result.andThen_ok, b k r cap _ w h2]
 | yes k e1 => cases hr with
  | no e2 => subst e1 e2; simp only [Instr.sliceBounds, Sem.run_bind, Sem.run_pure, Result.andThen_ok, b k l len _ w h1]
  | yes k' e2 => subst e1 e2; simp only [Instr.sliceBounds, Sem.run_bind, Sem.run_pure, Result.andThen_ok, b k' r cap _ w h2, b k l r _ w h1]
theorem run_bounds3 {len cap l r m : Nat} {lo hi mx : Option Value} {k : IntKind} (hl : Bnd lo 0 l) (hr : Bnd hi len r) (hs : hi.isSome = true) (hm : mx = some (.int k (m : Int))) (h1 : l ≤ r) (h2 : r ≤ m) (h3 : m ≤ cap) (w : World) : (Instr.sliceBounds true len cap lo hi mx).run P w = .ok (l, r, m) w := by
 have b : ∀ (k : IntKind) (n y : Nat) (code : BoundsCode) (w : World), n ≤ y → (Instr.sliceBound (.int k (n : Int)) y code).run P w = .ok n w := fun k n y code w hy => by
  simp only [Instr.sliceBound, asIntOf, Sem.run_bind, Sem.run_pure, Result.andThen_ok]
  rw [if_pos (by omega)]; simp
 subst hm
 cases hr with
 | no e2 => subst e2; cases hs
 | yes k' e2 =>
  subst e2
  cases hl with
  | no e1 => subst e1; simp only [Instr.sliceBounds, Sem.run_bind, Sem.run_pure, Result.andThen_ok, b k m cap _ w h3, b k' r m _ w h2]
  | yes k1 e1 => subst e1; simp only [Instr.sliceBounds, Sem.run_bind, Sem.run_pure, Result.andThen_ok, b k m cap _ w h3, b k' r m _ w h2, b k1 l r _ w h1]
theorem ns {a b : Nat} : Nat.sub a b = a - b := rfl
theorem nm {a b : Nat} : Nat.mul a b = a * b := rfl
theorem na {a b : Nat} : Nat.add a b = a + b := rfl
theorem aO {l m s : Nat} (h : l ≤ m) : l * s + (m - l) * s = m * s := by rw [← Nat.add_mul]; congr 1; omega
theorem lSlice_ok (hρ : ∀ x, Rep π (ρ x) (ρ' x)) (hw : Rel w0 π h w) {t : TypeId} {x : Operand} {lo hi mx : Option Operand} {r : SR} (hl : lSlice P ρ h t x lo hi mx = some r) : LOk P π ρ' w (.slice t x lo hi mx) r := by
 obtain ⟨d, h1, h2⟩ := uB hl
 obtain ⟨lo', h3, h4⟩ := uB h2
 obtain ⟨hi', h5, h6⟩ := uB h4
 obtain ⟨mx', h7, h8⟩ := uB h6
 have bl := (aL hρ h3 0).1
 have bm := aL hρ h7 0
 have mxn : mx' = none → mx.map ρ' = none := fun e => by
  have := bm.2
  rw [e] at this
  cases mx
  ·rfl
  ·cases this
 have hx := hρ x
 split at h8
 ·-- a string
  rename_i l e
  rw [e, Rep] at hx
  obtain ⟨s, hx, hs⟩ := hx
  split at h8
  ·obtain ⟨g1, g2⟩ := uM h8
   obtain ⟨q, g3, g4⟩ := uB g2
   cases g4
   obtain ⟨g5, g6⟩ := band g1
   have g5 := vQ g5
   have g6 := vQ g6
   rw [wJ] at g3 g5 g6
   have hsz : s.size = l.length := by rw [← hs, Array.length_toList]; rfl
   have br := (aL hρ h5 l.length).1
   have hb := bN (P := P) (isS := false) (cap := l.length) bl br g5 g6 w
   obtain ⟨g7, g8⟩ := yY g3
   refine ⟨.string (s.extract (od lo' 0) (od hi' l.length)), fun _ _ _ _ _ => ?_, ?_⟩
   ·simp only [execOp, hx, Instr.sliceAt, Instr.slice, Sem.run_bind, run_underlying h1, Result.andThen_ok, mxn rfl, Option.isSome_none, Bool.false_eq_true, if_false, hsz, hb, Sem.run_pure]
   ·rw [Rep]
    refine ⟨_, rfl, ?_⟩
    rw [g7, bG, ← hs, ns, ByteArray.data_extract, Array.toList_extract, List.extract_eq_take_drop]
  ·cases h8
 ·-- nil
  rename_i e
  rw [e, Rep] at hx
  split at h8
  ·rename_i el
   obtain ⟨inf, h9, h10⟩ := vU h8
   obtain ⟨g1, g2⟩ := uM h10
   cases g2
   obtain ⟨g3, g4⟩ := band g1
   have g3 := beq_eq g3
   have g4 := beq_eq g4
   have br := (aL hρ h5 0).1
   rw [g3] at bl
   rw [g4] at br
   have hb := bN (P := P) (isS := true) (cap := 0) bl br (Nat.le_refl _) (Nat.le_refl _) w
   refine ⟨.slice none 0 0, fun _ _ _ _ _ => ?_, by rw [Rep]⟩
   simp only [execOp, hx, Instr.sliceAt, Instr.slice, Sem.run_bind, run_underlying h1, Result.andThen_ok, mxn rfl, hb, wF h9, Sem.run_pure, if_true]
  ·cases h8
 ·-- a slice
  rename_i i o sz n c e
  rw [e, Rep] at hx
  obtain ⟨L, m, a, hL, hx, g1, g2, g3, g4⟩ := hx
  split at h8
  ·rename_i el
   obtain ⟨inf, h9, h10⟩ := vU h8
   split at h10
   ·obtain ⟨k1, k2⟩ := uM h10
    cases k2
    obtain ⟨k3, k4⟩ := band k1
    obtain ⟨k5, k6⟩ := band k3
    have k4 := beq_eq k4
    have k5 := vQ k5
    have k7 : od hi' n ≤ m := by
     simp only [Bool.or_eq_true] at k6
     rcases k6 with k6 | k6
     ·exact Nat.le_trans (vQ k6) g1
     ·cases c with
      | none => cases k6
      | some c => rw [g2 c rfl]; exact vQ k6
    have br := (aL hρ h5 n).1
    have hb := bN (P := P) (isS := true) (cap := m) bl br k5 k7 w
    generalize od lo' 0 = l at *
    generalize od hi' n = r at *
    refine ⟨.slice (if m = l then some ⟨L.b, a, none⟩ else some ⟨L.b, a + l * inf.size, none⟩) (r - l) (m - l), fun _ _ _ _ _ => ?_, ?_⟩
    ·simp only [execOp, hx, Instr.sliceAt, Instr.slice, Sem.run_bind, run_underlying h1, Result.andThen_ok, mxn rfl, hb, wF h9, Sem.run_pure, Option.map_some, yU]
    ·rw [Rep]
     by_cases hml : m = l
     ·rw [if_pos hml]
      refine ⟨L, m - l, a, hL, rfl, by rw [ns]; omega, fun c' hc => ?_, Or.inl (by omega), ?_⟩
      ·obtain ⟨c0, e1, e2⟩ := uB hc
       cases e2; rw [g2 c0 e1]; rfl
      ·rw [na, nm]
       have := aO (l := l) (m := m) (s := sz) (by omega)
       omega
     ·rw [if_neg hml]
      refine ⟨L, m - l, a + l * inf.size, hL, rfl, by rw [ns]; omega, fun c' hc => ?_, Or.inr ?_, ?_⟩
      ·obtain ⟨c0, e1, e2⟩ := uB hc
       cases e2; rw [g2 c0 e1]; rfl
      ·rcases g3 with g3 | g3
       ·omega
       ·rw [g3, na, nm, k4]; omega
      ·rw [na, nm]
       have := aO (l := l) (m := m) (s := sz) (by omega)
       omega
   ·rename_i mm
    obtain ⟨k1, k2⟩ := uM h10
    cases k2
    obtain ⟨k3, k4⟩ := band k1
    obtain ⟨k5, k6⟩ := band k3
    obtain ⟨k7, k8⟩ := band k5
    obtain ⟨k9, k10⟩ := band k7
    have k6 := beq_eq k6
    have k8 := vQ k8
    have k9 := vQ k9
    have k10 := vQ k10
    have hhi : (hi.map ρ').isSome = true := by
     have := (aL hρ h5 n).2
     cases hi' with
     | none => cases k4
     | some q => cases hi with
      | none => cases this
      | some y => rfl
    have hmx : ∃ k : IntKind, mx.map ρ' = some (.int k (mm : Int)) := by
     have e1 := bm.1
     have e2 := bm.2
     cases mx with
     | none => cases e2
     | some y =>
      cases e1 with
      | no e3 => cases e3
      | yes k e3 => exact ⟨k, e3⟩
    obtain ⟨k, hmx⟩ := hmx
    have br := (aL hρ h5 n).1
    have hb := run_bounds3 (P := P) (cap := m) bl br hhi hmx k9 k10 (by omega) w
    generalize od lo' 0 = l at *
    generalize od hi' n = r at *
    refine ⟨.slice (if mm = l then some ⟨L.b, a, none⟩ else some ⟨L.b, a + l * inf.size, none⟩) (r - l) (mm - l), fun _ _ _ _ _ => ?_, ?_⟩
    ·simp only [execOp, hx, Instr.sliceAt, Instr.slice, Sem.run_bind, run_underlying h1, Result.andThen_ok, hb, wF h9, Sem.run_pure, Option.map_some, yU]
    ·rw [Rep]
     have hmm : mm * sz ≤ m * sz := Nat.mul_le_mul_right _ (by omega)
     have := aO (l := l) (m := mm) (s := sz) (by omega)
     by_cases hml : mm = l
     ·rw [if_pos hml]
      exact ⟨L, mm - l, a, hL, rfl, by rw [ns]; omega, fun c' hc => by cases hc; rfl, Or.inl (by omega), by rw [na, nm]; omega⟩
     ·rw [if_neg hml]
      refine ⟨L, mm - l, a + l * inf.size, hL, rfl, by rw [ns]; omega, fun c' hc => (by cases hc; rfl), Or.inr ?_, by rw [na, nm]; omega⟩
      rcases g3 with g3 | g3
      ·omega
      ·rw [g3, na, nm, k6]; omega
  ·cases h8
 ·-- an array
  rename_i i o e
  rw [e, Rep] at hx
  obtain ⟨L, hL, hx⟩ := hx
  split at h8
  ·obtain ⟨ne, g1, g2⟩ := uB h8
   obtain ⟨n, el⟩ := ne
   obtain ⟨inf, h9, h10⟩ := vU g2
   obtain ⟨wr, cs, g3, g4⟩ := wW h10
   obtain ⟨k1, k2⟩ := uM g4
   cases k2
   obtain ⟨k3, k4⟩ := band k1
   obtain ⟨k5, k6⟩ := band k3
   have k4 : o + n * inf.size ≤ len cs := vQ k4
   have k5 := vQ k5
   have k6 := vQ k6
   rw [wJ] at k4
   obtain ⟨o', q1, rcs, T, fz, _, q2, _, q3, _⟩ := hw.obj i _ L g3 hL
   have br := (aL hρ h5 n).1
   have hb := bN (P := P) (isS := false) (cap := n) bl br k5 k6 w
   have hmn := mxn rfl
   simp only at k5 k6 br hb q3
   generalize od lo' 0 = l at *
   generalize od hi' n = r at *
   have hrep : Rep π (.sl i (Nat.add o (Nat.mul l inf.size)) inf.size (Nat.sub r l) (some (Nat.sub n l))) (.slice (some (if n = l then ⟨L.b, L.o + o, none⟩ else ⟨L.b, L.o + o + l * inf.size, none⟩)) (r - l) (n - l)) := by
    rw [Rep]
    have := aO (l := l) (m := n) (s := inf.size) (by omega)
    by_cases hml : n = l
    ·rw [if_pos hml]
     exact ⟨L, n - l, _, hL, rfl, by rw [ns]; omega, fun c' hc => by cases hc; rfl, Or.inl (by omega), by rw [na, nm]; omega⟩
    ·rw [if_neg hml]
     exact ⟨L, n - l, _, hL, rfl, by rw [ns]; omega, fun c' hc => (by cases hc; rfl), Or.inr (by rw [na, nm]; omega), by rw [na, nm]; omega⟩
   refine ⟨_, fun _ _ _ _ _ => ?_, hrep⟩
   split at g1
   ·cases g1
    simp only [execOp, hx, Instr.sliceAt, Sem.run_bind, run_underlying h1, Result.andThen_ok, Instr.sureAddr, Sem.run_pure, hmn, hb, wF h9, yU]
   ·obtain ⟨d2, f1, f2⟩ := uB g1
    split at f2
    ·cases f2
     simp only [execOp, hx, Instr.sliceAt, Instr.slice, Sem.run_bind, run_underlying h1, run_underlying f1, Result.andThen_ok, asAddr, Sem.run_pure, hmn, hb, wF h9, yU]
    ·cases f2
   ·cases g1
  ·cases h8
 ·cases h8
end
end Ev
namespace Ev
open Go
section
variable {P : Program} {w0 w : World} {π : Pl} {h : T AObj} {ρ : Operand → AV} {ρ' : Operand → Value}
def isI : AV → Bool
 | .int _ _ => true
 | _ => false
inductive Scal : AV → Prop where
 | i (k : IntKind) (n : Int) : Scal (.int k n)
 | s (l : List UInt8) : Scal (.str l)
 | a (l : List AV) (h : ∀ x ∈ l, isI x = true) : Scal (.agg l)
theorem mA : ∀ {l : List AV} {us vs : List Value}, (∀ x ∈ l, isI x = true) → RepL π l us → RepL π l vs → us = vs
 | [], us, vs, _, h1, h2 => by rw [RepL] at h1 h2; rw [h1, h2]
 | x :: l, us, vs, hl, h1, h2 => by
  rw [RepL] at h1
  rw [RepL] at h2
  obtain ⟨u, us, rfl, a1, a2⟩ := h1
  obtain ⟨v, vs, rfl, b1, b2⟩ := h2
  have hx := hl x (by simp)
  cases x <;> first | (cases hx; done) | skip
  rw [vD a1, vD b1, mA (fun x hx => hl x (by simp [hx])) a2 b2]
theorem Scal.same {k : AV} (hs : Scal k) {a b : Value} (ha : Rep π k a) (hb : Rep π k b) : a = b := by
 cases hs with
 | i q n => rw [vD ha, vD hb]
 | s l =>
  rw [Rep] at ha
  rw [Rep] at hb
  obtain ⟨⟨s⟩, rfl, e1⟩ := ha
  obtain ⟨⟨t⟩, rfl, e2⟩ := hb
  have : s = t := Array.toList_inj.1 (e1.trans e2.symm)
  rw [this]
 | a l hl =>
  rw [Rep] at ha
  rw [Rep] at hb
  obtain ⟨us, rfl, h1⟩ := ha
  obtain ⟨vs, rfl, h2⟩ := hb
  have := mA hl h1 h2
  rw [Array.toList_inj.1 this]
theorem bU {t : TypeId} {k : AV} (hk : okKey P t k = true) : ∃ d, P.underlying t = some d ∧ ((∃ q n kk, k = .int q n ∧ d = .int kk) ∨ (∃ l, k = .str l ∧ d = .string) ∨ ∃ l fs, k = .agg l ∧ d = .struct fs ∧ (∀ x ∈ l, isI x = true) ∧ ∀ f ∈ fs.toList, ∃ y, partA P f.type l f.offset = some y ∧ intKey P f.type y = true) := by
 unfold okKey at hk
 cases hu : P.underlying t with
 | none => rw [hu] at hk; cases hk
 | some d =>
  rw [hu] at hk
  refine ⟨d, rfl, ?_⟩
  simp only at hk
  cases k <;> first | (cases hk; done) | skip
  ·rename_i q n
   cases d <;> first | (cases hk; done) | exact Or.inl ⟨_, _, _, rfl, rfl⟩
  ·rename_i l
   cases d <;> first | (cases hk; done) | exact Or.inr (Or.inl ⟨_, rfl, rfl⟩)
  ·rename_i l
   cases d <;> first | (cases hk; done) | skip
   rename_i fs
   obtain ⟨h1, h2⟩ := band hk
   refine Or.inr (Or.inr ⟨l, fs, rfl, rfl, fun x hx => ?_, fun f hf => ?_⟩)
   ·have := wG h1 x hx
    cases x <;> first | rfl | (cases this; done)
   ·have := wG h2 f hf
    cases e : partA P f.type l f.offset with
    | none => rw [e] at this; cases this
    | some y => rw [e] at this; exact ⟨y, rfl, this⟩
theorem jR {t : TypeId} {k : AV} (hk : okKey P t k = true) : Scal k := by
 obtain ⟨d, _, ⟨q, n, kk, rfl, _⟩ | ⟨l, rfl, _⟩ | ⟨l, fs, rfl, _, h1, _⟩⟩ := bU hk
 ·exact .i _ _
 ·exact .s _
 ·exact .a _ h1
theorem cG {t : TypeId} {k : AV} {k' : Value} (hk : okKey P t k = true) (hr : Rep π k k') (em : Bool) (w : World) : (Instr.checkKey em 10000 t k').run P w = .ok () w := by
 obtain ⟨d, hu, ⟨q, n, kk, rfl, rfl⟩ | ⟨l, rfl, rfl⟩ | ⟨l, fs, rfl, rfl, h1, h2⟩⟩ := bU hk
 ·rw [vD hr]
  show (Instr.checkKey em (9999 + 1) t _).run P w = _
  unfold Instr.checkKey
  simp only [Sem.run_bind, run_underlying hu, Result.andThen_ok, Sem.run_pure]
 ·rw [Rep] at hr
  obtain ⟨s, rfl, _⟩ := hr
  show (Instr.checkKey em (9999 + 1) t _).run P w = _
  unfold Instr.checkKey
  simp only [Sem.run_bind, run_underlying hu, Result.andThen_ok, Sem.run_pure]
 ·rw [Rep] at hr
  obtain ⟨vs, rfl, hc⟩ := hr
  show (Instr.checkKey em (9999 + 1) t (.agg vs)).run P w = _
  unfold Instr.checkKey
  simp only [Sem.run_bind, run_underlying hu, Result.andThen_ok]
  have key : ∀ (l2 : List Field), (∀ f ∈ l2, f ∈ fs.toList) → ∀ (w : World), (forIn l2 PUnit.unit (fun f _ => do
    if f.name ≠ "_" then
     let y ← part f.type vs f.offset
     Instr.checkKey em 9999 f.type y
     pure (ForInStep.yield PUnit.unit)
    else pure (ForInStep.yield PUnit.unit)) : Sem PUnit).run P w = .ok PUnit.unit w := fun l2 => by
   induction l2 with
   | nil => intro _ w; simp
   | cons f l2 ih =>
    intro hm w
    obtain ⟨y, e1, e2⟩ := h2 f (hm f (by simp))
    obtain ⟨y', e3, e4⟩ := bQ e1 hc
    have e5 : (Instr.checkKey em 9999 f.type y').run P w = .ok () w := by
     unfold intKey at e2
     cases y <;> first | (cases e2; done) | skip
     rw [vD e4]
     cases hu2 : P.underlying f.type with
     | none => rw [hu2] at e2; cases e2
     | some d2 =>
      rw [hu2] at e2
      cases d2 <;> first | (cases e2; done) | skip
      show (Instr.checkKey em (9998 + 1) _ _).run P w = _
      unfold Instr.checkKey
      simp only [Sem.run_bind, run_underlying hu2, Result.andThen_ok, Sem.run_pure]
    simp only [List.forIn_cons, Sem.run_bind]
    by_cases hn : f.name ≠ "_"
    ·rw [if_pos hn]
     simp only [Sem.run_bind, e3, Result.andThen_ok, e5, Sem.run_pure]
     exact ih (fun g hg => hm g (by simp [hg])) w
    ·rw [if_neg hn]
     simp only [Sem.run_pure, Result.andThen_ok]
     exact ih (fun g hg => hm g (by simp [hg])) w
  have := key fs.toList (fun f hf => hf) w
  rw [← Array.forIn_toList]
  rw [this]
  rfl
theorem sC : ∀ {l m : List AV}, (∀ x ∈ l, isI x = true) → eqXs l m = true → l = m
 | [], [], _, _ => rfl
 | [], _ :: _, _, h => by cases h
 | _ :: _, [], _, h => by cases h
 | a :: l, b :: m, hl, h => by
  obtain ⟨h1, h2⟩ := band (show (eqX a b && eqXs l m) = true from h)
  have ha := hl a (by simp)
  rw [sC (fun x hx => hl x (by simp [hx])) h2]
  cases a <;> first | (cases ha; done) | skip
  cases b <;> first | (cases h1; done) | skip
  obtain ⟨h3, h4⟩ := band h1
  rw [of_decide_eq_true h3, of_decide_eq_true h4]
theorem Scal.eq {k x : AV} (hs : Scal k) (h : eqY k x = true) : k = x := by
 cases hs with
 | i q n =>
  cases x <;> first | (cases h; done) | skip
  obtain ⟨h3, h4⟩ := band (show (decide _ && decide _) = true from h)
  rw [of_decide_eq_true h3, of_decide_eq_true h4]
 | s l =>
  cases x <;> first | (cases h; done) | skip
  rw [of_decide_eq_true (show decide _ = true from h)]
 | a l hl =>
  cases x <;> first | (cases h; done) | skip
  rw [sC hl (show eqXs l _ = true from h)]
def FindR (π : Pl) (k' : Value) (es' : List MapEntry) (i0 : Nat) (r : Option (Nat × AV × Nat)) (r' : Option (Nat × Value)) : Prop := match r with
 | none => r' = none
 | some p => ∃ e, r' = some (p.1, e.val) ∧ i0 ≤ p.1 ∧ es'[p.1 - i0]? = some e ∧ Rep π p.2.1 e.val ∧ e.born = p.2.2 ∧ e.key = k'
theorem FindR.up {k' : Value} {e : MapEntry} {es' : List MapEntry} {i0 : Nat} {r : Option (Nat × AV × Nat)} {r' : Option (Nat × Value)} (h : FindR π k' es' (i0 + 1) r r') : FindR π k' (e :: es') i0 r r' := by
 cases r with
 | none => exact h
 | some p =>
  obtain ⟨e1, h1, h2, h3, h4⟩ := h
  refine ⟨e1, h1, by omega, ?_, h4⟩
  rw [show p.1 - i0 = (p.1 - (i0 + 1)) + 1 by omega]
  simpa using h3
theorem uAC {kt : TypeId} {k : AV} {k' : Value} (hs : Scal k) (hk : Rep π k k') : ∀ (es : List (AV × AV × Nat)) (es' : List MapEntry) (i : Nat) (r : Option (Nat × AV × Nat)), findA P kt k es i = some r → RepE π es es' →
  ∃ r', (∀ w, (Instr.findAsking kt k' es' i).run P w = .ok r' w) ∧ FindR π k' es' i r r'
 | [], es', i, r, h1, h2 => by
  cases h1
  have : es' = [] := h2
  subst this
  exact ⟨none, fun w => by simp [Instr.findAsking], rfl⟩
 | x :: es, es', i, r, h1, h2 => by
  obtain ⟨e, us, rfl, a1, a2, a3, a4⟩ := h2
  obtain ⟨b, h3, h4⟩ := uB (show ob (eqT P 3 kt k x.1) (fun r => bc r (og (eqY k x.1) (some (some (i, x.2)))) (findA P kt k es (Nat.succ i))) = some r from h1)
  have he : ∀ w, (Op.equal kt k' e.key).run P w = .ok b w := fun w => nQ 3 kt _ _ b _ _ h3 hk a1 9997 w
  rcases xU h4 with ⟨rfl, h5⟩ | ⟨rfl, h5⟩
  ·obtain ⟨h6, h7⟩ := uM h5
   cases h7
   have hx := hs.eq h6
   refine ⟨some (i, e.val), fun w => by simp [Instr.findAsking, he w], e, rfl, Nat.le_refl _, by simp, a2, a3, ?_⟩
   rw [← hx] at a1
   exact hs.same a1 hk
  ·obtain ⟨r', g1, g2⟩ := uAC hs hk es us (i + 1) r h5 a4
   exact ⟨r', fun w => by simp [Instr.findAsking, he w, g1 w], g2.up⟩
theorem tB {kt : TypeId} {d : TypeDesc} {k : AV} {k' : Value} (hs : Scal k) (hk : Rep π k k') (hu : P.underlying kt = some d) (hd : (∃ q, d = .int q) ∨ d = .string) : ∀ (es : List (AV × AV × Nat)) (es' : List MapEntry) (i : Nat) (r : Option (Nat × AV × Nat)), findA P kt k es i = some r → RepE π es es' →
  ∃ r', Instr.findNow d k' es' i = some r' ∧ FindR π k' es' i r r'
 | [], es', i, r, h1, h2 => by
  cases h1
  have : es' = [] := h2
  subst this
  exact ⟨none, rfl, rfl⟩
 | x :: es, es', i, r, h1, h2 => by
  obtain ⟨e, us, rfl, a1, a2, a3, a4⟩ := h2
  obtain ⟨b, h3, h4⟩ := uB (show ob (eqT P 3 kt k x.1) (fun r => bc r (og (eqY k x.1) (some (some (i, x.2)))) (findA P kt k es (Nat.succ i))) = some r from h1)
  have he : Instr.sameNow d k' e.key = some b := by
   unfold eqT at h3
   rw [hu] at h3
   rcases hd with ⟨q, rfl⟩ | rfl
   ·cases k <;> first | (cases h3; done) | skip
    generalize hx : x.1 = y at h3 a1
    cases y <;> first | (cases h3; done) | skip
    obtain ⟨h5, h6⟩ := uM h3
    have h5 := of_decide_eq_true h5
    subst h5
    cases h6
    rw [vD hk, vD a1]
    simp only [Instr.sameNow, if_true]
    rfl
   ·cases k <;> first | (cases h3; done) | skip
    generalize hx : x.1 = y at h3 a1
    cases y <;> first | (cases h3; done) | skip
    cases h3
    rw [Rep] at hk
    rw [Rep] at a1
    obtain ⟨s, rfl, e1⟩ := hk
    obtain ⟨t, e2, e3⟩ := a1
    rw [e2]
    simp only [Instr.sameNow]
    rw [fX, ← e1, ← e3]
    obtain ⟨s⟩ := s
    obtain ⟨t⟩ := t
    congr 1
    rw [Bool.eq_iff_iff, MapKept.bytes_beq]
    simp
  rcases xU h4 with ⟨rfl, h5⟩ | ⟨rfl, h5⟩
  ·obtain ⟨h6, h7⟩ := uM h5
   cases h7
   have hx := hs.eq h6
   refine ⟨some (i, e.val), by simp [Instr.findNow, he], e, rfl, Nat.le_refl _, by simp, a2, a3, ?_⟩
   rw [← hx] at a1
   exact hs.same a1 hk
  ·obtain ⟨r', g1, g2⟩ := tB hs hk hu hd es us (i + 1) r h5 a4
   exact ⟨r', by simp [Instr.findNow, he, g1], g2.up⟩
theorem nK {kt : TypeId} {k : AV} {k' : Value} (ho : okKey P kt k = true) (hk : Rep π k k') {es : List (AV × AV × Nat)} {es' : List MapEntry} {r : Option (Nat × AV × Nat)} (h1 : findA P kt k es 0 = some r) (h2 : RepE π es es') :
  ∃ r', (∀ w, (Instr.findKey kt k' es').run P w = .ok r' w) ∧ FindR π k' es' 0 r r' := by
 have hs := jR ho
 obtain ⟨d, hu, hc⟩ := bU ho
 have fast : ((∃ q, d = .int q) ∨ d = .string) → ∃ r', (∀ w, (Instr.findKey kt k' es').run P w = .ok r' w) ∧ FindR π k' es' 0 r r' := fun hd => by
  obtain ⟨r', g1, g2⟩ := tB hs hk hu hd es es' 0 r h1 h2
  exact ⟨r', fun w => MapKept.run_findKey hu g1, g2⟩
 rcases hc with ⟨q, n, kk, _, rfl⟩ | ⟨l, _, rfl⟩ | ⟨l, fs, rfl, rfl, _, _⟩
 ·exact fast (Or.inl ⟨_, rfl⟩)
 ·exact fast (Or.inr rfl)
 ·obtain ⟨r', g1, g2⟩ := uAC hs hk es es' 0 r h1 h2
  refine ⟨r', fun w => ?_, g2⟩
  have hn : Instr.findNow (.struct fs) k' es' 0 = none ∨ es' = [] := by
   cases es' with
   | nil => exact Or.inr rfl
   | cons e es' => exact Or.inl (by simp [Instr.findNow, Instr.sameNow])
  rcases hn with hn | rfl
  ·simp only [Instr.findKey, Sem.run_bind, run_underlying hu, Result.andThen_ok, hn, g1 w]
  ·have e1 := g1 w
   simp only [Instr.findAsking, Sem.run_pure] at e1
   cases e1
   simp only [Instr.findKey, Sem.run_bind, run_underlying hu, Result.andThen_ok, Instr.findNow, Sem.run_pure]
theorem gM {β : Type} {t : TypeId} {key : AV} {f : TypeId → TypeId → Option β} {r : β} (h : mapT P t key f = some r) : ∃ kt el, P.underlying t = some (.map kt el) ∧ okKey P kt key = true ∧ f kt el = some r := by
 obtain ⟨d, h1, h2⟩ := uB h
 cases d <;> first | (cases h2; done) | skip
 obtain ⟨h3, h4⟩ := uM h2
 exact ⟨_, _, h1, h3, h4⟩
theorem Rel.map (hw : Rel w0 π h w) {i : Nat} {L : Loc} {es : List (AV × AV × Nat)} {c : Nat} (hL : π i = some L) (hi : h.get i = some (.map es c)) : ∃ es', w.heap[L.b]? = some (.map es' c) ∧ RepE π es es'.toList := by
 obtain ⟨o', h1, es', rfl, h2⟩ := hw.obj i _ L hi hL
 exact ⟨es', h1, h2⟩
theorem aD {b : Nat} {es : Array MapEntry} {c : Nat} (hb : w.heap[b]? = some (.map es c)) : (getObj b).run P w = .ok (.map es c) w := by
 simp [getObj, Sem.run, hb]
theorem lLookup_ok (hρ : ∀ x, Rep π (ρ x) (ρ' x)) (hw : Rel w0 π h w) {t : TypeId} {x k : Operand} {ok : Bool} {r : SR} (hl : lLookup P ρ h t x k ok = some r) : LOk P π ρ' w (.lookup t x k ok) r := by
 obtain ⟨kt, el, h1, h2, h3⟩ := gM hl
 obtain ⟨z, h4, h5⟩ := uB h3
 obtain ⟨z', g1, g2⟩ := bK (π := π) h4
 have hx := hρ x
 have hc := fun em => cG (P := P) h2 (hρ k) em w
 have miss : Rep π (bc ok (.tup [z, .bool false]) z) (if ok then .tuple #[z', .bool false] else z') := by
  cases ok
  ·exact g2
  ·show Rep π (.tup [z, .bool false]) _
   rw [Rep]; exact ⟨_, rfl, .cons g2 (.cons (by rw [Rep]) .nil)⟩
 split at h5
 ·rename_i e
  cases h5
  rw [e, Rep] at hx
  refine ⟨if ok then .tuple #[z', .bool false] else z', fun _ _ _ _ _ => ?_, miss⟩
  have hf : (Instr.findKey kt (ρ' k) []).run P w = .ok none w := by
   obtain ⟨d, hu, _⟩ := bU h2
   simp [Instr.findKey, run_underlying hu, Instr.findNow]
  simp only [execOp, hx, Instr.lookup, Sem.run_bind, run_underlying h1, Result.andThen_ok, Sem.run_pure, hc, hf, g1, Array.toList_empty, List.isEmpty_nil]
 ·rename_i i e
  obtain ⟨es, c, g3, g4⟩ := aF h5
  obtain ⟨q, g5, g6⟩ := uB g4
  cases g6
  rw [e, Rep] at hx
  obtain ⟨L, hL, hx⟩ := hx
  obtain ⟨es', e1, e2⟩ := hw.map hL g3
  obtain ⟨r', e3, e4⟩ := nK h2 (hρ k) g5 e2
  have hg := aD (P := P) e1
  cases q with
  | none =>
   have : r' = none := e4
   subst this
   refine ⟨if ok then .tuple #[z', .bool false] else z', fun _ _ _ _ _ => ?_, miss⟩
   simp only [execOp, hx, Instr.lookup, Sem.run_bind, run_underlying h1, Result.andThen_ok, hg, Sem.run_pure, hc, e3, g1]
  | some p =>
   obtain ⟨me, rfl, _, _, e5, _⟩ := e4
   refine ⟨if ok then .tuple #[me.val, .bool true] else me.val, fun _ _ _ _ _ => ?_, ?_⟩
   ·simp only [execOp, hx, Instr.lookup, Sem.run_bind, run_underlying h1, Result.andThen_ok, hg, Sem.run_pure, hc, e3]
   ·cases ok
    ·exact e5
    ·show Rep π (.tup [p.2.1, .bool true]) _
     rw [Rep]; exact ⟨_, rfl, .cons e5 (.cons (by rw [Rep]) .nil)⟩
 ·cases h5
theorem RepE.length : ∀ {xs : List (AV × AV × Nat)} {es : List MapEntry}, RepE π xs es → es.length = xs.length
 | [], es, h => by have : es = [] := h; rw [this]; rfl
 | x :: xs, es, ⟨e, us, h1, _, _, _, h5⟩ => by rw [h1]; simp [h5.length]
theorem lCall_ok (hρ : ∀ x, Rep π (ρ x) (ρ' x)) (hw : Rel w0 π h w) {c : Call} {r : SR} (hl : lCall P ρ h c = some r) : LOk P π ρ' w (.call c) r := by
 obtain ⟨callee, ⟨args⟩, ⟨tys⟩⟩ := c
 unfold lCall at hl
 split at hl
 ·rename_i b hb
  simp only at hb hl
  subst hb
  unfold lBuiltin at hl
  split at hl
  ·-- len
   rename_i x
   obtain ⟨t, h1, h2⟩ := uB hl
   rw [yE] at h1
   have hx := hρ x
   have fin : ∀ {v : AV} {v' : Value}, (∀ T, (Builtin.len_ tys.toArray T #[ρ' x]).run P w = .ok v' w) → Rep π v v' → LOk P π ρ' w (.call ⟨.builtin .len, ⟨[x]⟩, ⟨tys⟩⟩) (.val v) := fun e1 e2 =>
    ⟨_, fun _ T _ _ _ => by simp only [execOp, resolve, List.map_toArray, List.map_cons, List.map_nil, Sem.run_bind, Sem.run_pure, Result.andThen_ok, invoke, builtin, e1 T], e2⟩
   have ht : (tys.toArray)[0]? = some t := by simpa using h1
   obtain ⟨d, h3, h4⟩ := uB h2
   split at h4
   ·cases h4
    exact fin (v' := .int .i64 _) (fun T => by simp only [Builtin.len_, ht, List.getElem?_toArray, List.getElem?_cons_zero, Sem.run_bind, run_underlying h3, Result.andThen_ok, Sem.run_pure]; rfl) (by rw [Rep]; rfl)
   ·split at h4
    ·rename_i l e
     cases h4
     rw [e, Rep] at hx
     obtain ⟨s, hx, hs⟩ := hx
     refine fin (v' := .int .i64 s.size) (fun T => by simp only [hx, Builtin.len_, ht, List.getElem?_toArray, List.getElem?_cons_zero, Sem.run_bind, run_underlying h3, Result.andThen_ok, Sem.run_pure]; rfl) ?_
     rw [Rep, wJ, ← hs, Array.length_toList]; rfl
    ·cases h4
   ·split at h4
    ·rename_i e
     cases h4
     rw [e, Rep] at hx
     exact fin (v' := .int .i64 0) (fun T => by simp only [hx, Builtin.len_, ht, List.getElem?_toArray, List.getElem?_cons_zero, Sem.run_bind, run_underlying h3, Result.andThen_ok, Sem.run_pure]; rfl) (by rw [Rep]; rfl)
    ·rename_i i o s n c e
     cases h4
     rw [e, Rep] at hx
     obtain ⟨L, m, a, _, hx, _⟩ := hx
     exact fin (v' := .int .i64 n) (fun T => by simp only [hx, Builtin.len_, ht, List.getElem?_toArray, List.getElem?_cons_zero, Sem.run_bind, run_underlying h3, Result.andThen_ok, Sem.run_pure]; rfl) (by rw [Rep]; rfl)
    ·cases h4
   ·split at h4
    ·rename_i e
     cases h4
     rw [e, Rep] at hx
     exact fin (v' := .int .i64 0) (fun T => by simp only [hx, Builtin.len_, ht, List.getElem?_toArray, List.getElem?_cons_zero, Sem.run_bind, run_underlying h3, Result.andThen_ok, Sem.run_pure]; rfl) (by rw [Rep]; rfl)
    ·rename_i i e
     obtain ⟨es, c, g3, g4⟩ := aF h4
     cases g4
     rw [e, Rep] at hx
     obtain ⟨L, hL, hx⟩ := hx
     obtain ⟨es', e1, e2⟩ := hw.map hL g3
     have hg := aD (P := P) e1
     refine fin (v' := .int .i64 es'.size) (fun T => by simp only [hx, Builtin.len_, ht, List.getElem?_toArray, List.getElem?_cons_zero, Sem.run_bind, run_underlying h3, Result.andThen_ok, hg, Sem.run_pure]; rfl) ?_
     rw [Rep, wJ, ← e2.length, Array.length_toList]; rfl
    ·cases h4
   ·cases h4
  ·-- cap
   rename_i x
   obtain ⟨t, h1, h2⟩ := uB hl
   rw [yE] at h1
   have hx := hρ x
   have fin : ∀ {v : AV} {v' : Value}, (∀ T, (Builtin.cap_ tys.toArray T #[ρ' x]).run P w = .ok v' w) → Rep π v v' → LOk P π ρ' w (.call ⟨.builtin .cap, ⟨[x]⟩, ⟨tys⟩⟩) (.val v) := fun e1 e2 =>
    ⟨_, fun _ T _ _ _ => by simp only [execOp, resolve, List.map_toArray, List.map_cons, List.map_nil, Sem.run_bind, Sem.run_pure, Result.andThen_ok, invoke, builtin, e1 T], e2⟩
   have ht : (tys.toArray)[0]? = some t := by simpa using h1
   obtain ⟨el, h3, h4⟩ := zN h2
   split at h4
   ·rename_i e
    cases h4
    rw [e, Rep] at hx
    exact fin (v' := .int .i64 0) (fun T => by simp only [hx, Builtin.cap_, ht, List.getElem?_toArray, List.getElem?_cons_zero, Sem.run_bind, run_underlying h3, Result.andThen_ok, Sem.run_pure]; rfl) (by rw [Rep]; rfl)
   ·rename_i i o s n c e
    cases h4
    rw [e, Rep] at hx
    obtain ⟨L, m, a, _, hx, _, hc, _⟩ := hx
    have := hc c rfl
    subst this
    exact fin (v' := .int .i64 m) (fun T => by simp only [hx, Builtin.cap_, ht, List.getElem?_toArray, List.getElem?_cons_zero, Sem.run_bind, run_underlying h3, Result.andThen_ok, Sem.run_pure]; rfl) (by rw [Rep]; rfl)
   ·cases h4
  ·-- min
   rename_i x y
   unfold lMin at hl
   split at hl
   ·rename_i k a k' b e1 e2
    cases hl
    have hx := hρ x
    have hy := hρ y
    rw [e1] at hx
    rw [e2] at hy
    have hx := vD hx
    have hy := vD hy
    exact ⟨.int k (if b < a then b else a), fun _ T _ _ _ => by simp only [execOp, resolve, List.map_toArray, List.map_cons, List.map_nil, Sem.run_bind, Sem.run_pure, Result.andThen_ok, invoke, builtin, hx, hy, Builtin.min_, List.foldlM_cons, List.foldlM_nil, Builtin.min2], by rw [Rep]; rfl⟩
   ·cases hl
  ·-- max
   rename_i x y
   unfold lMin at hl
   split at hl
   ·rename_i k a k' b e1 e2
    cases hl
    have hx := hρ x
    have hy := hρ y
    rw [e1] at hx
    rw [e2] at hy
    have hx := vD hx
    have hy := vD hy
    exact ⟨.int k (if a < b then b else a), fun _ T _ _ _ => by simp only [execOp, resolve, List.map_toArray, List.map_cons, List.map_nil, Sem.run_bind, Sem.run_pure, Result.andThen_ok, invoke, builtin, hx, hy, Builtin.max_, List.foldlM_cons, List.foldlM_nil, Builtin.max2], by rw [Rep]; rfl⟩
   ·cases hl
  ·cases hl
 ·cases hl
theorem pA (hρ : ∀ x, Rep π (ρ x) (ρ' x)) (hw : Rel w0 π h w) {op : Op} {r : SR} (hl : light P ρ h op = some r) : LOk P π ρ' w op r := by
 cases op
 case move => cases hl; exact lMove_ok hρ
 case assign => cases hl; exact lAssign_ok hρ
 case pick => exact lPick_ok hρ hl
 case alloc => exact lAlloc_ok hl
 case box => exact lBox_ok hρ hl
 case build => exact lBuild_ok hρ hl
 case buildSlice => exact lBuildSlice_ok hρ hl
 case load => exact lLoad_ok hρ hw hl
 case nilCheck => exact lNilCheck_ok hρ hl
 case binOp => exact lBin_ok hρ hl
 case unOp => exact lUn_ok hρ hl
 case convert => exact lConvert_ok hρ hl
 case makeInterface => exact lIface_ok hρ hl
 case makeFunc => exact lFunc_ok hρ hl
 case makeMap => exact lMap_ok hl
 case makeSlice => exact lMakeSlice_ok hρ hl
 case slice => exact lSlice_ok hρ hw hl
 case fieldAddr => exact lFieldAddr_ok hρ hl
 case field => exact lField_ok hρ hl
 case indexAddr => exact lIndexAddr_ok hρ hl
 case index => exact lIndex_ok hρ hl
 case lookup => exact lLookup_ok hρ hw hl
 case typeAssert => exact lAssert_ok hρ hl
 case extract => exact lExtract_ok hρ hl
 case call => exact lCall_ok hρ hw hl
 all_goals cases hl
end
end Ev
namespace Ev
open Go
def HOk (P : Program) (w0 : World) (π : Pl) (s : St) (ρ' : Operand → Value) (w : World) (op : Op) (v : AV) (s' : St) : Prop :=
 ∃ v' π' w' nx, (∀ dst ty pos af gd, (execOp ρ' ⟨dst, op, ty, pos, af, gd⟩).run P w = .ok nx w') ∧ (nx = .value v' ∨ (nx = .skip ∧ v' = undef)) ∧ Rep π' v v' ∧ Nx w0 π s π' s' w'
section
variable {P : Program} {w0 w : World} {π : Pl} {s : St} {ρ : Operand → AV} {ρ' : Operand → Value}
def Pl.upd (π : Pl) (c : Nat) (L : Loc) : Pl := fun i => if i = c then some L else π i
theorem Pl.upd_self (π : Pl) (c : Nat) (L : Loc) : π.upd c L c = some L := if_pos rfl
theorem Pl.upd_ne (π : Pl) {i c : Nat} (L : Loc) (h : i ≠ c) : π.upd c L i = π i := if_neg h
theorem Pl.le_upd {π : Pl} {c : Nat} (L : Loc) (h : π c = none) : π.le (π.upd c L) := fun i M e => by
 rw [Pl.upd_ne _ _ (fun e' => by rw [e', h] at e; cases e)]; exact e
theorem Rel.upd {h : T AObj} (hr : Rel w0 π h w) {i : Nat} {o o' : AObj} {L : Loc} {ob' : Obj} {w' : World} (hi : h.get i = some o) (ho : o.rw = true) (hL : π i = some L) (h1 : w'.heap[L.b]? = some ob') (h2 : ∀ b, b ≠ L.b → w'.heap[b]? = w.heap[b]?)
  (hs : w'.heap.size = w.heap.size) (ht : w'.tape = w.tape) (hos : w'.os = w.os) (hp : w'.output = w.output) (hat : ObjAt π L ob' o') : Rel w0 π (h.put i o') w' where
 obj j q M hj hM := by
  by_cases e : j = i
  ·subst e
   rw [T.put_self] at hj; cases hj
   rw [hL] at hM; cases hM
   exact ⟨ob', h1, hat⟩
  ·rw [T.put_ne _ _ e] at hj
   obtain ⟨q', g1, g2⟩ := hr.obj j q M hj hM
   have hne : M.b ≠ L.b := fun eb => e (hr.inj i j o q L M hi hj hL hM ho eb.symm).symm
   exact ⟨q', (h2 _ hne).trans g1, g2⟩
 own j q M hj hM hq := by
  by_cases e : j = i
  ·subst e
   rw [hL] at hM; cases hM
   exact hr.own j o L hi hL ho
  ·rw [T.put_ne _ _ e] at hj
   exact hr.own j q M hj hM hq
 inj j k p q M N hj hk hM hN hp' eb := by
  by_cases e1 : j = i <;> by_cases e2 : k = i
  ·rw [e1, e2]
  ·subst e1
   rw [T.put_ne _ _ e2] at hk
   rw [hL] at hM; cases hM
   exact hr.inj j k o q L N hi hk hL hN ho eb
  ·subst e2
   rw [T.put_ne _ _ e1] at hj
   rw [hL] at hN; cases hN
   exact (hr.inj k j o p L M hi hj hL hM ho eb.symm).symm
  ·rw [T.put_ne _ _ e1] at hj
   rw [T.put_ne _ _ e2] at hk
   exact hr.inj j k p q M N hj hk hM hN hp' eb
 keep b hb := by
  have := hr.own i o L hi hL ho
  exact (h2 b (by omega)).trans (hr.keep b hb)
 size := by rw [hs]; exact hr.size
 tape := ht.trans hr.tape
 os := hos.trans hr.os
 output := hp.trans hr.output
theorem Rel.del {h : T AObj} (hr : Rel w0 π h w) (i : Nat) : Rel w0 π (h.del i) w := by
 have hg : ∀ j o, (h.del i).get j = some o → h.get j = some o := fun j o e => by
  rw [T.get_del] at e
  split at e
  ·cases e
  ·exact e
 exact ⟨fun j o L hj => hr.obj j o L (hg _ _ hj), fun j o L hj => hr.own j o L (hg _ _ hj), fun j k p q L M hj hk => hr.inj j k p q L M (hg _ _ hj) (hg _ _ hk), hr.keep, hr.size, hr.tape, hr.os, hr.output⟩
theorem Rel.lt {h : T AObj} (hr : Rel w0 π h w) {i : Nat} {o : AObj} {L : Loc} (hi : h.get i = some o) (hL : π i = some L) : L.b < w.heap.size := by
 obtain ⟨o', h1, _⟩ := hr.obj i o L hi hL
 exact (Array.getElem?_eq_some_iff.1 h1).1
theorem Rel.name {h : T AObj} (hr : Rel w0 π h w) {c : Nat} {o : AObj} {L : Loc} {ob' : Obj} {w' : World} (hc : π c = none) (h1 : w'.heap[L.b]? = some ob') (h2 : ∀ b, b < w.heap.size → b ≠ L.b → w'.heap[b]? = w.heap[b]?)
  (hs : w.heap.size ≤ w'.heap.size) (ht : w'.tape = w.tape) (hos : w'.os = w.os) (hp : w'.output = w.output) (hat : ObjAt π L ob' o) (hown : w0.heap.size ≤ L.b) (hno : ∀ j q M, h.get j = some q → π j = some M → M.b ≠ L.b) : Rel w0 (π.upd c L) (h.put c o) w' where
 obj j q M hj hM := by
  by_cases e : j = c
  ·subst e
   rw [T.put_self] at hj; cases hj
   rw [Pl.upd_self] at hM; cases hM
   exact ⟨ob', h1, hat.mono (Pl.le_upd L hc)⟩
  ·rw [T.put_ne _ _ e] at hj
   rw [Pl.upd_ne _ _ e] at hM
   obtain ⟨q', g1, g2⟩ := hr.obj j q M hj hM
   exact ⟨q', (h2 _ (hr.lt hj hM) (hno j q M hj hM)).trans g1, g2.mono (Pl.le_upd L hc)⟩
 own j q M hj hM hq := by
  by_cases e : j = c
  ·subst e
   rw [Pl.upd_self] at hM; cases hM
   exact hown
  ·rw [T.put_ne _ _ e] at hj
   rw [Pl.upd_ne _ _ e] at hM
   exact hr.own j q M hj hM hq
 inj j k p q M N hj hk hM hN hp' eb := by
  by_cases e1 : j = c <;> by_cases e2 : k = c
  ·rw [e1, e2]
  ·subst e1
   rw [T.put_ne _ _ e2] at hk
   rw [Pl.upd_self] at hM; cases hM
   rw [Pl.upd_ne _ _ e2] at hN
   exact (hno k q N hk hN eb.symm).elim
  ·subst e2
   rw [T.put_ne _ _ e1] at hj
   rw [Pl.upd_self] at hN; cases hN
   rw [Pl.upd_ne _ _ e1] at hM
   exact (hno j p M hj hM eb).elim
  ·rw [T.put_ne _ _ e1] at hj
   rw [T.put_ne _ _ e2] at hk
   rw [Pl.upd_ne _ _ e1] at hM
   rw [Pl.upd_ne _ _ e2] at hN
   exact hr.inj j k p q M N hj hk hM hN hp' eb
 keep b hb := by
  have := hr.size
  exact (h2 b (by omega) (by omega)).trans (hr.keep b hb)
 size := Nat.le_trans hr.size hs
 tape := ht.trans hr.tape
 os := hos.trans hr.os
 output := hp.trans hr.output
theorem Rel.new {h : T AObj} (hr : Rel w0 π h w) {c : Nat} {o : AObj} {N dr : Nat} {ob' : Obj} (hc : π c = none) (hat : ObjAt π ⟨w.heap.size, 0, N⟩ ob' o) :
  Rel w0 (π.upd c ⟨w.heap.size, 0, N⟩) (h.put c o) { w with heap := w.heap.push ob', drawn := dr } :=
 hr.name (L := ⟨w.heap.size, 0, N⟩) hc (by simp) (fun b hb _ => by simp [Array.getElem?_push, Nat.ne_of_lt hb]) (by simp) rfl rfl rfl hat hr.size fun j q M hj hM e => by
  have := hr.lt hj hM
  rw [e] at this
  exact Nat.lt_irrefl _ this
theorem Rel.world {h : T AObj} (hr : Rel w0 π h w) (dr : Nat) : Rel w0 π h { w with drawn := dr } := ⟨hr.obj, hr.own, hr.inj, hr.keep, hr.size, hr.tape, hr.os, hr.output⟩
theorem Nx.upd (hf : Fresh π s) (hr : Rel w0 π s.h w) {i : Nat} {o o' : AObj} {L : Loc} {w' : World} (hi : s.h.get i = some o) (hL : π i = some L) (h : Rel w0 π (s.h.put i o') w') : Nx w0 π s π ⟨s.h.put i o', s.c⟩ w' := by
 have hic : i < s.c := by
  rcases Nat.lt_or_ge i s.c with hh | hh
  ·exact hh
  ·rw [(hf i hh).2] at hL; cases hL
 refine ⟨.refl π, fun j hj hn => ⟨hn, T.put_ne _ _ (fun e => by rw [e, hL] at hn; cases hn)⟩, Nat.le_refl _, fun j hj => ⟨?_, (hf j hj).2⟩, h⟩
 show (s.h.put i o').get j = none
 have hj : s.c ≤ j := hj
 rw [T.put_ne _ _ (by omega)]; exact (hf j hj).1
theorem Nx.new (hf : Fresh π s) {h' : T AObj} {o : AObj} {L : Loc} {w' : World} (hh : ∀ j, π j = none → h'.get j = s.h.get j) (h : Rel w0 (π.upd s.c L) (h'.put s.c o) w') : Nx w0 π s (π.upd s.c L) ⟨h'.put s.c o, Nat.succ s.c⟩ w' := by
 have hc := (hf s.c (Nat.le_refl _)).2
 refine ⟨Pl.le_upd L hc, fun j hj hn => ⟨(Pl.upd_ne _ _ (by omega)).trans hn, (T.put_ne _ _ (by omega)).trans (hh j hn)⟩, Nat.le_succ _, fun j hj => ?_, h⟩
 have hj : s.c + 1 ≤ j := hj
 exact ⟨(T.put_ne _ _ (by omega)).trans ((hh j (hf j (by omega)).2).trans (hf j (by omega)).1), (Pl.upd_ne _ _ (by omega)).trans (hf j (by omega)).2⟩
theorem zV (hf : Fresh π s) : π s.c = none := (hf s.c (Nat.le_refl _)).2
theorem yK (π : Pl) : Rep π (.tup []) undef := by rw [Rep]; exact ⟨#[], rfl, RepL.nil⟩
theorem ObjAt.over {L : Loc} {wr : Bool} {cs new : List AV} {rcs : Array Value} {T : TypeId} {news : List Value} {o : Nat} (hat : ObjAt π L (.cells rcs T (0, 0)) (.cells wr cs)) (hn : RepL π new news) (ho : o + new.length ≤ cs.length) :
  L.o + o + news.length ≤ rcs.size ∧ ObjAt π L (.cells (rcs.toList.take (L.o + o) ++ news ++ rcs.toList.drop (L.o + o + news.length)).toArray T (0, 0)) (.cells wr (setCells cs o new)) := by
 obtain ⟨rcs', T', fz, e, h1, h2, h3, h4⟩ := hat
 cases e
 have hl := hn.length
 refine ⟨by omega, _, T, (0, 0), rfl, by simp; omega, fun _ => rfl, ?_, fun i x hx => ?_⟩
 ·rw [aK _ _ _ (by omega)]; simp; omega
 ·rw [aK _ _ _ (by omega)] at hx
  simp only [List.getElem?_toArray, List.append_assoc] at hx ⊢
  by_cases c1 : i < o
  ·rw [List.getElem?_append_left (by simp; omega), List.getElem?_take, if_pos c1] at hx
   obtain ⟨v, g1, g2⟩ := h4 i x hx
   refine ⟨v, ?_, g2⟩
   rw [List.getElem?_append_left (by simp; omega), List.getElem?_take, if_pos (by omega)]
   simpa using g1
  ·rw [List.getElem?_append_right (by simp; omega)] at hx
   have e1 : (cs.take o).length = o := by simp; omega
   rw [e1] at hx
   rw [List.getElem?_append_right (by simp; omega)]
   have e2 : (rcs.toList.take (L.o + o)).length = L.o + o := by simp; omega
   rw [e2, show L.o + i - (L.o + o) = i - o by omega]
   by_cases c2 : i - o < new.length
   ·rw [List.getElem?_append_left c2] at hx
    obtain ⟨v, g1, g2⟩ := hn.get hx
    exact ⟨v, by rw [List.getElem?_append_left (by omega)]; exact g1, g2⟩
   ·rw [List.getElem?_append_right (by omega), List.getElem?_drop, show o + new.length + (i - o - new.length) = i by omega] at hx
    obtain ⟨v, g1, g2⟩ := h4 i x hx
    refine ⟨v, ?_, g2⟩
    rw [List.getElem?_append_right (by omega), List.getElem?_drop, hl, show L.o + o + new.length + (i - o - new.length) = L.o + i by omega]
    simpa using g1
theorem hStore_ok (hρ : ∀ x, Rep π (ρ x) (ρ' x)) (hf : Fresh π s) (hr : Rel w0 π s.h w) {t : TypeId} {a x : Operand} {r : AV × St} (hl : hStore P ρ s t a x = some r) : HOk P w0 π s ρ' w (.store t a x) r.1 r.2 := by
 obtain ⟨i, o, h1, h2⟩ := bX (show asPtr (ρ a) _ = _ from hl)
 obtain ⟨inf, h0, h2⟩ := vU h2
 obtain ⟨cs, h3, h4⟩ := aT h2
 obtain ⟨h5, h6⟩ := uM h4
 cases h6
 obtain ⟨h7, h8⟩ := band h5
 obtain ⟨h7, h9⟩ := band h7
 rw [wJ] at h7 h9
 rw [wJ] at h7
 have h7 : o + (ρ x).cells.length ≤ cs.length := vQ h7
 have h9 := beq_eq h9
 have ha := hρ a
 rw [h1, Rep] at ha
 obtain ⟨L, hL, ha⟩ := ha
 obtain ⟨g1, g2⟩ := (hρ x).cells (wG h8)
 obtain ⟨ob, e1, hat⟩ := hr.obj i _ L h3 hL
 have hat0 := hat
 obtain ⟨rcs, T, fz, rfl, e2, e3, e4, e5⟩ := hat0
 have := e3 rfl
 subst this
 obtain ⟨k1, k2⟩ := hat.over g1 h7
 have hst := run_storeCells_at P L.b (L.o + o) T (ρ' x).cells.toList 0 rcs w e1 (by simpa using k1) g2
 simp only [Nat.add_zero] at hst
 have hsz := g1.eqs
 refine ⟨undef, π, _, .skip, fun _ _ _ _ _ => ?_, Or.inr ⟨rfl, rfl⟩, yK π, Nx.upd hf hr h3 hL (hr.upd h3 rfl hL (setRow_heap w L.b rcs _ T _ e1) (fun b hb => setRow_other w L.b b _ hb) (by simp [World.setRow]) rfl rfl rfl k2)⟩
 have n1 : ¬ (ρ' x).cells.size ≠ inf.size := by omega
 simp only [execOp, ha, Instr.storeAt, Instr.sureAddr, Sem.run_bind, Sem.run_pure, Result.andThen_ok, storeVar, wF h0, n1, if_false, hst]
end
end Ev
namespace Ev
open Go
section
variable {P : Program} {w0 w : World} {π : Pl} {s : St} {ρ : Operand → AV} {ρ' : Operand → Value}
theorem RepE.append : ∀ {xs ys : List (AV × AV × Nat)} {es fs : List MapEntry}, RepE π xs es → RepE π ys fs → RepE π (xs ++ ys) (es ++ fs)
 | [], ys, es, fs, h, h' => by have : es = [] := h; subst this; exact h'
 | x :: xs, ys, es, fs, ⟨e, us, h1, h2, h3, h4, h5⟩, h' => by subst h1; exact ⟨e, us ++ fs, rfl, h2, h3, h4, h5.append h'⟩
theorem RepE.one {k v : AV} {b : Nat} {k' v' : Value} (hk : Rep π k k') (hv : Rep π v v') : RepE π [(k, v, b)] [{ key := k', val := v', born := b }] := ⟨_, [], rfl, hk, hv, rfl, rfl⟩
theorem lH {x : AV} {x' : Value} (hx : Rep π x x') : ∀ {es : List (AV × AV × Nat)} {es' : List MapEntry} {i : Nat}, RepE π es es' → RepE π (setNth x es i) (es'.modify i fun e => { e with val := x' })
 | [], es', i, h => by
  have : es' = [] := h
  subst this
  cases i <;> rfl
 | y :: es, es', i, ⟨e, us, h1, h2, h3, h4, h5⟩ => by
  subst h1
  cases i with
  | zero => exact ⟨_, us, rfl, h2, hx, h4, h5⟩
  | succ i => exact ⟨e, _, rfl, h2, h3, h4, lH hx (i := i) h5⟩
theorem dU {k : AV} {k' : Value} (hs : Scal k) (hk : Rep π k k') : Instr.sameBits 10000 k' k' = true := by
 have base : ∀ (n : Nat) (x : AV) (v : Value), isI x = true → Rep π x v → Instr.sameBits n v v = true := fun n x v hx hv => by
  cases x <;> first | (cases hx; done) | skip
  rw [vD hv]
  cases n <;> simp [Instr.sameBits]
 cases hs with
 | i q n => exact base _ _ _ rfl hk
 | s l =>
  rw [Rep] at hk
  obtain ⟨s, rfl, _⟩ := hk
  show Instr.sameBits (9999 + 1) _ _ = true
  simp only [Instr.sameBits]
  rw [MapKept.bytes_beq]
 | a l hl =>
  rw [Rep] at hk
  obtain ⟨vs, rfl, hc⟩ := hk
  show Instr.sameBits (9999 + 1) _ _ = true
  simp only [Instr.sameBits, beq_self_eq_true, Bool.true_and, List.all_eq_true]
  intro p hp
  obtain ⟨j, hj⟩ := List.mem_iff_getElem?.1 hp
  rw [List.getElem?_zip_eq_some] at hj
  obtain ⟨j1, j2⟩ := hj
  have e : p.1 = p.2 := by rw [j1] at j2; exact Option.some.inj j2
  have hlt : j < l.length := by rw [← hc.length]; exact (List.getElem?_eq_some_iff.1 j1).1
  obtain ⟨v, g1, g2⟩ := hc.get (List.getElem?_eq_getElem hlt)
  rw [j1] at g1
  cases g1
  rw [← e]
  exact base _ _ _ (hl _ (List.getElem_mem hlt)) g2
theorem aC {b : Nat} {es : Array MapEntry} {c : Nat} (o : Obj) (hb : w.heap[b]? = some (.map es c)) : (setObj b o).run P w = .ok () { w with heap := w.heap.setIfInBounds b o } := by
 simp [setObj, Sem.run, hb]
theorem heap_set' {b : Nat} {o o' : Obj} (hb : w.heap[b]? = some o) : ({ w with heap := w.heap.setIfInBounds b o' } : World).heap[b]? = some o' ∧ (∀ q, q ≠ b → ({ w with heap := w.heap.setIfInBounds b o' } : World).heap[q]? = w.heap[q]?) := by
 have hlt : b < w.heap.size := (Array.getElem?_eq_some_iff.1 hb).1
 exact ⟨by simp [hlt], fun q hne => by simp [Ne.symm hne]⟩
theorem Rel.setMap {h : T AObj} (hr : Rel w0 π h w) {i : Nat} {L : Loc} {es es2 : List (AV × AV × Nat)} {c c2 : Nat} {es' es2' : Array MapEntry} (hi : h.get i = some (.map es c)) (hL : π i = some L) (hb : w.heap[L.b]? = some (.map es' c)) (he : RepE π es2 es2'.toList) :
  Rel w0 π (h.put i (.map es2 c2)) { w with heap := w.heap.setIfInBounds L.b (.map es2' c2) } := by
 obtain ⟨h1, h2⟩ := heap_set' (o' := .map es2' c2) hb
 exact hr.upd hi rfl hL h1 h2 (by simp) rfl rfl rfl ⟨es2', rfl, he⟩
theorem modify_key {es : Array MapEntry} {i : Nat} {e : MapEntry} {k' : Value} (h : es.toList[i]? = some e) (hk : e.key = k') (x : Value) : (es.modify i fun e => { e with key := k', val := x }).toList = es.toList.modify i fun e => { e with val := x } := by
 rw [Array.toList_modify]
 apply List.ext_getElem?
 intro j
 simp only [List.getElem?_modify]
 by_cases e1 : i = j
 ·subst e1
  rw [h]
  simp [← hk]
 ·simp [e1]
theorem hUpdate_core (hρ : ∀ x, Rep π (ρ x) (ρ' x)) (hf : Fresh π s) (hr : Rel w0 π s.h w) {t : TypeId} {m k x : Operand} {r : AV × St} (hl : hUpdate P ρ s t m k x = some r) : ∃ w', (Instr.mapUpdate t (ρ' m) (ρ' k) (ρ' x)).run P w = .ok () w' ∧ r.1 = .tup [] ∧ Nx w0 π s π r.2 w' := by
 obtain ⟨kt, el, h1, h2, h3⟩ := gM hl
 obtain ⟨i, h4, h5⟩ := eM h3
 obtain ⟨es, c, h6, h7⟩ := aF h5
 obtain ⟨q, h8, h9⟩ := uB h7
 cases h9
 have hm := hρ m
 rw [h4, Rep] at hm
 obtain ⟨L, hL, hm⟩ := hm
 obtain ⟨es', e1, e2⟩ := hr.map hL h6
 obtain ⟨r', e3, e4⟩ := nK h2 (hρ k) h8 e2
 have hg := aD (P := P) e1
 have hc := cG (P := P) h2 (hρ k) false w
 cases q with
 | none =>
  have : r' = none := e4
  subst this
  have hE : RepE π (app es [(ρ k, ρ x, c)]) (es'.push { key := ρ' k, val := ρ' x, born := c }).toList := by
   rw [xX, Array.toList_push]
   exact e2.append (RepE.one (hρ k) (hρ x))
  refine ⟨_, ?_, rfl, Nx.upd hf hr h6 hL (hr.setMap h6 hL e1 hE)⟩
  simp only [Instr.mapUpdate, hm, Sem.run_bind, run_underlying h1, Result.andThen_ok, hg, hc, e3, aC _ e1]
 | some p =>
  obtain ⟨me, rfl, _, e5, e6, e7, e8⟩ := e4
  simp only [Nat.sub_zero] at e5
  have hE : RepE π (setNth (ρ x) es p.1) (es'.modify p.1 fun e => { e with key := ρ' k, val := ρ' x }).toList := by
   rw [modify_key e5 e8]
   exact lH (hρ x) e2
  refine ⟨_, ?_, rfl, Nx.upd hf hr h6 hL (hr.setMap h6 hL e1 hE)⟩
  have hkk : (Instr.keyThatStays (((es'[p.1]?).map (·.key)).getD (ρ' k)) (ρ' k)).run P w = .ok (ρ' k) w := by
   have : es'[p.1]? = some me := by simpa using e5
   rw [this]
   simp only [Option.map_some, Option.getD_some, e8, Instr.keyThatStays, dU (jR h2) (hρ k), if_true, Sem.run_pure]
  simp only [Instr.mapUpdate, hm, Sem.run_bind, run_underlying h1, Result.andThen_ok, hg, hc, e3, hkk, aC _ e1]
theorem jZ (hρ : ∀ x, Rep π (ρ x) (ρ' x)) (hf : Fresh π s) (hr : Rel w0 π s.h w) {t : TypeId} {m k x : Operand} {r : AV × St} (hl : hUpdate P ρ s t m k x = some r) : HOk P w0 π s ρ' w (.mapUpdate t m k x) r.1 r.2 ∧ HOk P w0 π s ρ' w (.insert t m k x) r.1 r.2 := by
 obtain ⟨w', h1, h2, h3⟩ := hUpdate_core hρ hf hr hl
 rw [h2]
 exact ⟨⟨undef, π, w', .skip, fun _ _ _ _ _ => by simp only [execOp, Sem.run_bind, h1, Result.andThen_ok, Sem.run_pure], Or.inr ⟨rfl, rfl⟩, yK π, h3⟩,
  ⟨undef, π, w', .skip, fun _ _ _ _ _ => by simp only [execOp, Sem.run_bind, h1, Result.andThen_ok, Sem.run_pure], Or.inr ⟨rfl, rfl⟩, yK π, h3⟩⟩
theorem hEntry_ok (hρ : ∀ x, Rep π (ρ x) (ρ' x)) (hf : Fresh π s) (hr : Rel w0 π s.h w) {t : TypeId} {m k : Operand} {r : AV × St} (hl : hEntry P ρ s t m k = some r) : HOk P w0 π s ρ' w (.mapEntry t m k) r.1 r.2 := by
 obtain ⟨kt, el, h1, h2, h3⟩ := gM hl
 obtain ⟨i, h4, h5⟩ := eM h3
 obtain ⟨es, c, h6, h7⟩ := aF h5
 obtain ⟨z, h8, h9⟩ := uB h7
 obtain ⟨q, h10, h11⟩ := uB h9
 cases h11
 obtain ⟨z', g1, g2⟩ := bK (π := π) h8
 have hm := hρ m
 rw [h4, Rep] at hm
 obtain ⟨L, hL, hm⟩ := hm
 obtain ⟨es', e1, e2⟩ := hr.map hL h6
 obtain ⟨r', e3, e4⟩ := nK h2 (hρ k) h10 e2
 have hg := aD (P := P) e1
 have hc := cG (P := P) h2 (hρ k) false w
 cases q with
 | none =>
  have : r' = none := e4
  subst this
  have hE : RepE π (app es [(ρ k, z, c)]) (es'.push { key := ρ' k, val := z', born := c }).toList := by
   rw [xX, Array.toList_push]
   exact e2.append (RepE.one (hρ k) g2)
  refine ⟨.tuple #[z', goInt c], π, _, .value (.tuple #[z', goInt c]), fun _ _ _ _ _ => ?_, Or.inl rfl, ?_, Nx.upd hf hr h6 hL (hr.setMap h6 hL e1 hE)⟩
  ·simp only [execOp, Instr.mapEntry, hm, Sem.run_bind, run_underlying h1, Result.andThen_ok, hg, hc, e3, g1, aC _ e1, Sem.run_pure]
  ·rw [Rep]; exact ⟨_, rfl, .cons g2 (.cons (by rw [Rep]; rfl) .nil)⟩
 | some p =>
  obtain ⟨me, rfl, _, e5, e6, e7, e8⟩ := e4
  simp only [Nat.sub_zero] at e5
  have e5' : es'[p.1]? = some me := by simpa using e5
  have hE : (es'.modify p.1 fun e => { e with key := ρ' k }) = es' := by
   apply Array.toList_inj.1
   rw [Array.toList_modify]
   apply List.ext_getElem?
   intro j
   simp only [List.getElem?_modify]
   by_cases ej : p.1 = j
   ·subst ej; rw [e5]; simp [← e8]
   ·simp [ej]
  have hkk : (Instr.keyThatStays me.key (ρ' k)).run P w = .ok (ρ' k) w := by
   simp only [e8, Instr.keyThatStays, dU (jR h2) (hρ k), if_true, Sem.run_pure]
  have hsame : ({ w with heap := w.heap.setIfInBounds L.b (.map es' c) } : World) = w := by
   have hlt : L.b < w.heap.size := (Array.getElem?_eq_some_iff.1 e1).1
   have : w.heap.setIfInBounds L.b (.map es' c) = w.heap := by
    apply Array.ext_getElem?
    intro j
    by_cases ej : L.b = j
    ·subst ej; rw [e1]; simp [hlt]
    ·simp [ej]
   rw [this]
  refine ⟨.tuple #[me.val, goInt me.born], π, w, .value (.tuple #[me.val, goInt me.born]), fun _ _ _ _ _ => ?_, Or.inl rfl, ?_, Nx.refl hf hr⟩
  ·simp only [execOp, Instr.mapEntry, hm, Sem.run_bind, run_underlying h1, Result.andThen_ok, hg, hc, e3, e5', Option.map_some, Option.getD_some, hkk, hE, aC _ e1, hsame, Sem.run_pure]
  ·rw [Rep]; exact ⟨_, rfl, .cons e6 (.cons (by rw [Rep, e7]; rfl) .nil)⟩
theorem gU {b : Nat} {x : AV} {x' : Value} (hx : Rep π x x') : ∀ {es : List (AV × AV × Nat)} {es' : List MapEntry}, RepE π es es' → (∃ e ∈ es, e.2.2 = b) →
  ∃ i, es'.findIdx? (fun e => (e.born : Int) == (b : Int)) = some i ∧ RepE π (setEntry b x es) (es'.modify i fun e => { e with val := x' })
 | [], es', h, ⟨e, he, _⟩ => by cases he
 | y :: es, es', ⟨e, us, h1, h2, h3, h4, h5⟩, hex => by
  subst h1
  have hse : setEntry b x (y :: es) = bc (Nat.beq b y.2.2) ((y.1, x, y.2.2) :: es) (y :: setEntry b x es) := rfl
  cases hb : Nat.beq b y.2.2 with
  | true =>
   have hb := beq_eq hb
   refine ⟨0, ?_, ?_⟩
   ·rw [List.findIdx?_cons]; simp [h4, hb]
   ·rw [hse, show Nat.beq b y.2.2 = true by rw [hb]; simp, bc_t]
    exact ⟨_, us, rfl, h2, hx, h4, h5⟩
  | false =>
   have hne : b ≠ y.2.2 := fun e => by rw [e] at hb; simp at hb
   obtain ⟨i, g1, g2⟩ := gU hx h5 (by
    obtain ⟨f, hf, hfb⟩ := hex
    rcases List.mem_cons.1 hf with rfl | hf
    ·exact (hne hfb.symm).elim
    ·exact ⟨f, hf, hfb⟩)
   refine ⟨i + 1, ?_, ?_⟩
   ·rw [List.findIdx?_cons]
    have : ¬ ((e.born : Int) = (b : Int)) := by rw [h4]; omega
    simp [this, g1]
   ·rw [hse, hb, bc_f]
    exact ⟨e, _, rfl, h2, h3, h4, g2⟩
theorem hEntryStore_ok (hρ : ∀ x, Rep π (ρ x) (ρ' x)) (hf : Fresh π s) (hr : Rel w0 π s.h w) {t : TypeId} {m b x : Operand} {r : AV × St} (hl : hEntryStore ρ s m b x = some r) : HOk P w0 π s ρ' w (.entryStore t m b x) r.1 r.2 := by
 obtain ⟨i, h4, h5⟩ := eM (show asMap (ρ m) _ = _ from hl)
 obtain ⟨k, n, h6, h7⟩ := yH h5
 obtain ⟨es, c, h8, h9⟩ := aF h7
 obtain ⟨h10, h11⟩ := uM h9
 cases h11
 have hm := hρ m
 rw [h4, Rep] at hm
 obtain ⟨L, hL, hm⟩ := hm
 have hb := hρ b
 rw [h6] at hb
 have hb : ρ' b = .int k (n : Int) := vD hb
 obtain ⟨es', e1, e2⟩ := hr.map hL h8
 have hg := aD (P := P) e1
 have hex : ∃ e ∈ es, e.2.2 = n := by
  apply Classical.byContradiction
  intro hno
  have : allL (fun e : AV × AV × Nat => !Nat.beq e.2.2 n) es = true := by
   have hall : ∀ e ∈ es, (!Nat.beq e.2.2 n) = true := fun e he => by
    cases hq : Nat.beq e.2.2 n with
    | false => rfl
    | true => exact (hno ⟨e, he, beq_eq hq⟩).elim
   clear h10 h8 e2 hno h9 h7 h5 hl
   induction es with
   | nil => rfl
   | cons e es ih =>
    have h1 := hall e (by simp)
    have h2 := ih fun f hf => hall f (by simp [hf])
    show @Bool.rec (fun _ => Bool) false (allL (fun e : AV × AV × Nat => !Nat.beq e.2.2 n) es) (!Nat.beq e.2.2 n) = true
    rw [h1]; exact h2
  rw [this] at h10
  cases h10
 obtain ⟨j, g1, g2⟩ := gU (hρ x) e2 hex
 have g1' : es'.findIdx? (fun e => (e.born : Int) == (n : Int)) = some j := by
  rw [show es' = es'.toList.toArray by simp, List.findIdx?_toArray]; exact g1
 have hE : RepE π (setEntry n (ρ x) es) (es'.modify j fun e => { e with val := ρ' x }).toList := by
  rw [Array.toList_modify]; exact g2
 refine ⟨undef, π, _, .skip, fun _ _ _ _ _ => ?_, Or.inr ⟨rfl, rfl⟩, yK π, Nx.upd hf hr h8 hL (hr.setMap h8 hL e1 hE)⟩
 simp only [execOp, Instr.entryStore, hm, hb, Sem.run_bind, Result.andThen_ok, hg, asInt, asIntOf, Sem.run_pure, g1', aC _ e1]
end
end Ev
end Go.Proofs.YtjogffchdejabaaGreatDoor
