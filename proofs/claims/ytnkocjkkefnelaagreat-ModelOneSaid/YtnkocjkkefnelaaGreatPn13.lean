/- Parts. -/
import Derived.Maps.OwnOps
import Derived.Maps.OwnSet
import Derived.Maps.Views
import Derived.Sort.Walk7
import Derived.Shelf.Small.Bits
import Derived.Test.YtnkocjkkefnelaaGreatPn1
import Derived.Test.YtnkocjkkefnelaaGreatPn6
import Derived.Test.YtnkocjkkefnelaaGreatPn8
import Derived.Test.YtnkocjkkefnelaaGreatPn10
import Derived.Test.YtnkocjkkefnelaaGreatPn11
import Derived.Test.YtnkocjkkefnelaaGreatPn12
set_option linter.unusedVariables false
set_option linter.unusedSimpArgs false
set_option maxHeartbeats 4000000
set_option maxHeartbeats 4000000
set_option maxRecDepth 100000
namespace Go.Proofs.YtnkocjkkefnelaaGreat
open Go.RowKit Go.Shelf Go.Maps Go.Sort
def smallP (l : List (Int × Int)) : Prop := ∀ p ∈ l, 0 ≤ p.1 ∧ p.1 < 65536 ∧ 0 ≤ p.2 ∧ p.2 < 65536
def toI (x : P2) : Int × Int := ((x.1.val : Int), (x.2.val : Int))
theorem mO : ∀ {l : List (Int × Int)}, smallP l → ∃ d : List P2, l = d.map toI
 | [], _ => ⟨[], rfl⟩
 | (a, b) :: l, h => by
  obtain ⟨d, hd⟩ := mO (l := l) fun p hp => h p (by simp [hp])
  obtain ⟨h1, h2, h3, h4⟩ := h (a, b) (by simp)
  dsimp only at h1 h2 h3 h4
  refine ⟨(⟨a.toNat, by omega⟩, ⟨b.toNat, by omega⟩) :: d, ?_⟩
  rw [List.map_cons, ← hd]
  refine congrArg (· :: l) ?_
  unfold toI
  dsimp only
  rw [Int.toNat_of_nonneg h1, Int.toNat_of_nonneg h3]
def ltZ (x y : Int × Int) : Bool := decide (x.1 < y.1 ∨ (x.1 = y.1 ∧ x.2 < y.2))
def sortZ (l : List (Int × Int)) : List (Int × Int) := l.mergeSort (fun x y => !ltZ y x)
theorem eW (d : List P2) : (sortP d).map toI = sortZ (d.map toI) := by
 unfold sortP sortZ
 refine List.map_mergeSort fun a _ b _ => ?_
 unfold ltP ltZ toI
 congr 1
 refine decide_eq_decide.2 ?_
 dsimp only
 omega
theorem mX {G : Gh} {p : Int × Int} {o : Nat} {y : OV} {v : Value} (hy : (pairO' p)[o]? = some y) (hv : RepO G y v) : v = (if o = 0 then Value.int .i64 p.1 else .int .i64 p.2) := by
 match o, hy with
 | 0, hy => simp [pairO'] at hy; subst hy; rw [RepO, Rep] at hv; exact hv.1
 | 1, hy => simp [pairO'] at hy; subst hy; rw [RepO, Rep] at hv; exact hv.1
theorem rowAt_flat {G : Gh} {cs : Array Value} {d : List P2} (h : RowAt G cs ⟨2, (d.map toI).map pairO'⟩) (hl : d.length * 2 ≤ cs.size) : cs.toList.take (d.length * 2) = flatP d := by
 apply List.ext_getElem?
 intro t
 by_cases ht : t < d.length * 2
 ·have hi : t / 2 < d.length := by omega
  rw [zV d t ht, List.getElem?_take_of_lt ht, Array.getElem?_toList]
  obtain ⟨_, h2⟩ := h (t / 2) (pairO' (toI (d.getD (t / 2) default))) (by simp [List.getD, hi])
  have hm : t % 2 = 0 ∨ t % 2 = 1 := by omega
  rcases hm with hm | hm
  ·obtain ⟨v, h3, h4⟩ := h2 0 _ rfl
   have h5 := mX (p := toI (d.getD (t / 2) default)) (o := 0) rfl h4
   dsimp only at h3
   rw [show t / 2 * 2 + 0 = t by omega] at h3
   rw [h3, h5, hm]; rfl
  ·obtain ⟨v, h3, h4⟩ := h2 1 _ rfl
   have h5 := mX (p := toI (d.getD (t / 2) default)) (o := 1) rfl h4
   dsimp only at h3
   rw [show t / 2 * 2 + 1 = t by omega] at h3
   rw [h3, h5, hm]; rfl
 ·rw [List.getElem?_take_eq_none (by omega), List.getElem?_eq_none (by rw [eB]; omega)]
theorem flat_rowAt {G : Gh} {cs : Array Value} {d : List P2} (h : cs.toList.take (d.length * 2) = flatP d) : RowAt G cs ⟨2, (d.map toI).map pairO'⟩ := fun i row hi => by
 have hlt : i < d.length := by
  rcases Nat.lt_or_ge i d.length with hh | hh
  ·exact hh
  ·rw [List.getElem?_eq_none (by simpa using hh)] at hi; cases hi
 have hrow : row = pairO' (toI (d.getD i default)) := by
  simp [List.getD, hlt] at hi ⊢; exact hi.symm
 subst hrow
 refine ⟨rfl, fun o y hy => ?_⟩
 have get : ∀ t, t < d.length * 2 → cs[t]? = some ((encP (d.getD (t / 2) default))[t % 2]!) := fun t ht => by
  rw [← zV d t ht, ← h, List.getElem?_take_of_lt ht, Array.getElem?_toList]
 have e0 := get (i * 2) (by omega)
 have e1 := get (i * 2 + 1) (by omega)
 rw [show i * 2 / 2 = i by omega, show i * 2 % 2 = 0 by omega] at e0
 rw [show (i * 2 + 1) / 2 = i by omega, show (i * 2 + 1) % 2 = 1 by omega] at e1
 match o, hy with
 | 0, hy => simp [pairO'] at hy; subst hy; exact ⟨_, e0, by rw [RepO, Rep]; exact ⟨rfl, rfl⟩⟩
 | 1, hy => simp [pairO'] at hy; subst hy; exact ⟨_, e1, by rw [RepO, Rep]; exact ⟨rfl, rfl⟩⟩
theorem yE (l : List (Int × Int)) : (sortZ l).length = l.length := List.length_mergeSort _
theorem sortFunc_w (k : Nat) (τ : Stamp) (l : List (Int × Int)) (hs : smallP l) (hl : l.length ≤ 1073741824) :
  FnW E.P 95 [.os k τ 2 l.length, .fn 106 [] []] (stL [(k, (τ, ⟨2, l.map pairO'⟩))]) (IsW (.tu []) (stL [(k, (τ, ⟨2, (sortZ l).map pairO'⟩))])) := by
 refine ⟨⟨_, Tryz.func95, by decide, rfl⟩, fun G w vs N hv hw => ?_⟩
 obtain ⟨d, rfl⟩ := mO hs
 rw [RepOL] at hv
 obtain ⟨x1, us, rfl, h1, hv⟩ := hv
 rw [RepOL] at hv
 obtain ⟨x2, us, rfl, h2, hv⟩ := hv
 rw [RepOL] at hv
 subst hv
 rw [RepO] at h2
 obtain ⟨f1, f2, rfl, hf1, hf2⟩ := h2
 rw [RepOL] at hf1 hf2
 have hf1 : f1 = #[] := Array.toList_eq_nil_iff.1 hf1
 have hf2 : f2 = #[] := Array.toList_eq_nil_iff.1 hf2
 subst hf1 hf2
 have hk : stL [(k, (τ, (⟨2, (d.map toI).map pairO'⟩ : Row)))] k = some (τ, ⟨2, (d.map toI).map pairO'⟩) := by simp [stL]
 have htu : RepO G (.tu []) (.tuple #[]) := by rw [RepO]; exact ⟨#[], rfl, by rw [RepOL]⟩
 rw [RepO] at h1
 rcases h1 with ⟨β, c, hμ, rfl, hc1, hc2, hc3⟩ | ⟨hμ, rfl, hn⟩
 ·obtain ⟨cs, hb, hsz, hrl, hrow⟩ := hw.blk hk hμ
  have hlen : (d.map toI).length = d.length := by simp
  rw [hlen] at hc1 ⊢
  simp only [List.length_map] at hrl
  have hflat := rowAt_flat hrow (by rw [hsz]; exact hrl)
  have hF : (flatK encP 2 d.toArray).size = d.length * 2 := by simp
  have hH : HoldsK encP 2 w β.b 0 d.toArray := aN hb (by rw [hF, yH]; exact hflat)
  have hlt : β.b < w.heap.size := (Array.getElem?_eq_some_iff.1 hb).1
  have cS := sortPairs_c β.b 0 c d.toArray w hH hlt (by simp; simp at hl; omega)
  rw [List.size_toArray] at cS
  refine cS.mono ?_
  rintro e w' ⟨rfl, d', nn, os, hp, hso, rfl⟩
  have hd : d'.size = d.length := by have := hp.1; simpa using this
  have hsort : d'.toList = sortP d := dN d.toArray d' (by simpa using hp) (by simpa using hso)
  have hF2 : (flatK encP 2 d').size = d.length * 2 := by simp [hd]
  have hg := aO (w := w) (g := β.b) (n := nn) (os := os) (flatK encP 2 d')
  have hb' := dX (n := nn) (os := os) (flatK encP 2 d') hb
  have hsd : (sortP d).length = d.length := by rw [← hsort]; simp [hd]
  have hpl : (putCells id 0 (flatK encP 2 d') cs).size = cs.size := by simp [putCells]
  refine ⟨_, G, .tu [], _, rfl, ⟨rfl, ?le⟩, .refl _, htu, hw.put (r' := ⟨2, (sortZ (d.map toI)).map pairO'⟩) hk hμ hg.size hg.tape hg.os hg.output (fun b hb1 hne => hg.block b hb1 (fun e => hne (Option.some.inj e))) ⟨_, hb', by rw [hpl, hsz], by rw [← eW]; simp [hsd]; omega, ?_⟩⟩
  case le =>
   intro t y hy
   unfold stL at hy
   cases hbq : Nat.beq t k with
   | true => rw [hbq] at hy; cases hy; rw [Nat.eq_of_beq_eq_true hbq]; exact Store.put_self _ _ _
   | false => rw [hbq] at hy; cases hy
  ·rw [← eW]
   refine flat_rowAt ?_
   rw [hsd, ← hF2, aR cs _ (by rw [hF2, hsz]; exact hrl), ← hsort, ← yH]
 ·have hd : d = [] := by
   have : d.length = 0 := by simpa using hn
   exact List.eq_nil_of_length_eq_zero this
  subst hd
  refine (aT none 0 (.func (.func 106) #[] #[]) w).mono ?_
  rintro e w' ⟨rfl, rfl⟩
  refine ⟨_, G, .tu [], _, rfl, ⟨rfl, ?_⟩, .refl _, htu, hw⟩
  have : sortZ (([] : List P2).map toI) = [] := by simp [sortZ]
  rw [this]
  exact fun t y h => h
theorem fU {l : List (Int × Int)} (h : smallP l) : smallP (sortZ l) := fun p hp => h p ((List.mergeSort_perm l _).mem_iff.1 hp)
set_option maxHeartbeats 4000000 in
theorem collect_s {y : OV} {f : FuncId} {fi ca : List OV} (hf : IsFn y f fi ca) (l : List (Int × Int)) (hl : l.length ≤ 1073741824) (hs : SeqW E.P f fi ca (pairYs l)) :
  Own E.P 94 [y] 2 (l.map pairO') := by
 refine fnA Tryz.func94 Tryz.ntmps94 ?_
 refine run ?_; refine aoR fun _ => ?_
 refine run ?_; refine aoR fun _ => ?_
 refine run ?_
 apply gH; exact rfl; exact .fn _ _ _; exact rfl; exact appendSeq_p hf l hl hs
 refine run ?_; rotate_left
 exact wR (d := 2) rfl rfl rfl rfl
theorem sortFunc_w' (k : Nat) (τ : Stamp) (l : List (Int × Int)) (hs : smallP l) (hl : l.length ≤ 1073741824) :
  FnW E.P 95 [.os k τ 2 (l.map pairO').length, .fn 106 [] []] (stL [(k, (τ, ⟨2, l.map pairO'⟩))]) (IsW (.tu []) (stL [(k, (τ, ⟨2, (sortZ l).map pairO'⟩))])) := by
 rw [List.length_map]; exact sortFunc_w k τ l hs hl
set_option maxHeartbeats 4000000 in
theorem sortedFunc_s {y : OV} {f : FuncId} {fi ca : List OV} (hf : IsFn y f fi ca) (l : List (Int × Int)) (hsm : smallP l) (hl : l.length ≤ 1073741824) (hs : SeqW E.P f fi ca (pairYs l)) :
  Own E.P 66 [y, .fn 106 [] []] 2 ((sortZ l).map pairO') := by
 refine fnA Tryz.func66 Tryz.ntmps66 ?_
 refine run ?_; refine aoR fun _ => ?_
 refine run ?_; refine aoR fun _ => ?_
 refine run ?_
 apply gH; exact rfl; exact .fn _ _ _; exact rfl; exact collect_s hf l hl hs
 refine run ?_; refine aoR fun _ => ?_
 refine run ?_
 apply S_callw; exact rfl; exact .fn _ _ _; exact rfl; exact sortFunc_w' _ _ l hsm hl; exact leP; exact rfl; simp
 refine run ?_; refine aoR fun _ => ?_
 refine run ?_; rotate_left
 refine wR (d := 4) rfl rfl rfl ?_
 simp [yE]
set_option maxHeartbeats 4000000 in
theorem gK {y : OV} {f : FuncId} {fi ca : List OV} (hf : IsFn y f fi ca) (l : List (Int × Int)) (hsm : smallP l) (hl : l.length ≤ 1073741824) (hs : SeqW E.P f fi ca (pairYs l)) :
  Own E.P 82 [y] 2 ((sortZ l).map pairO') := by
 refine fnA Tryz.func82 Tryz.ntmps82 ?_
 refine run ?_; refine aoR fun _ => ?_
 refine run ?_; refine aoR fun _ => ?_
 refine run ?_
 apply gH; exact rfl; exact .fn _ _ _; exact rfl; exact sortedFunc_s hf l hsm hl hs
 refine run ?_; rotate_left
 exact wR (d := 2) rfl rfl rfl rfl
open Go.RowKit Go.Maps Go.Sort
def addIn (a : Int) : List Int → List Int
 | [] => [a]
 | x :: r => if x < a then x :: addIn a r else if x = a then x :: r else a :: x :: r
def addrsTo (es : List Ev) : List Int := es.foldl (fun l e => if e.kind = 4 then l else addIn e.addr l) []
theorem bY (a x : Int) : ∀ l, x ∈ addIn a l ↔ x = a ∨ x ∈ l
 | [] => by simp [addIn]
 | y :: r => by
  unfold addIn
  split
  ·simp only [List.mem_cons, bY a x r]; exact or_left_comm
  ·split
   ·rename_i h1 h2; subst h2; simp
   ·simp
theorem eS (a : Int) : ∀ l : List Int, l.Pairwise (· < ·) → (addIn a l).Pairwise (· < ·)
 | [], _ => by simp [addIn]
 | y :: r, h => by
  rw [List.pairwise_cons] at h
  unfold addIn
  split
  ·rename_i h1
   rw [List.pairwise_cons]
   exact ⟨fun z hz => by rcases (bY a z r).1 hz with rfl | hz; exact h1; exact h.1 z hz, eS a r h.2⟩
  ·split
   ·exact List.pairwise_cons.2 h
   ·rename_i h1 h2
    rw [List.pairwise_cons]
    exact ⟨fun z hz => by rcases List.mem_cons.1 hz with rfl | hz; omega; have := h.1 z hz; omega, List.pairwise_cons.2 h⟩
theorem eR (es : List Ev) (e : Ev) : addrsTo (es ++ [e]) = if e.kind = 4 then addrsTo es else addIn e.addr (addrsTo es) := by
 simp [addrsTo, List.foldl_append]
theorem yW (es : List Ev) : (addrsTo es).Pairwise (· < ·) := by
 suffices h : ∀ (es : List Ev) (l : List Int), l.Pairwise (· < ·) → (es.foldl (fun l e => if e.kind = 4 then l else addIn e.addr l) l).Pairwise (· < ·) from h es [] (by simp)
 intro es
 induction es with
 | nil => intro l h; exact h
 | cons e r ih =>
  intro l h
  rw [List.foldl_cons]
  refine ih _ ?_
  split
  ·exact h
  ·exact eS _ _ h
theorem dT (a : Int) : ∀ l : List Int, (addIn a l).length ≤ l.length + 1
 | [] => by simp [addIn]
 | y :: r => by
  unfold addIn
  split
  ·simp; exact dT a r
  ·split <;> simp
theorem yB (es : List Ev) : (addrsTo es).length ≤ es.length := by
 suffices h : ∀ (es : List Ev) (l : List Int), (es.foldl (fun l e => if e.kind = 4 then l else addIn e.addr l) l).length ≤ l.length + es.length from by simpa [addrsTo] using h es []
 intro es
 induction es with
 | nil => intro l; simp
 | cons e r ih =>
  intro l
  rw [List.foldl_cons]
  refine Nat.le_trans (ih _) ?_
  split
  ·simp
  ·have := dT e.addr l
   simp; omega
theorem sorted_same {ss l : List Int} (hn : ss.Nodup) (hl : l.Pairwise (· < ·)) (hm : ∀ x, x ∈ ss ↔ x ∈ l) : ss.mergeSort (fun x y => decide (x ≤ y)) = l := by
 have hp : ss.Perm l := (List.perm_ext_iff_of_nodup hn (hl.imp (fun h => by omega))).2 hm
 refine List.Perm.eq_of_pairwise (le := fun a b : Int => a ≤ b) (fun a b _ _ h1 h2 => by omega) ?_ (hl.imp (fun h => by omega)) ((List.mergeSort_perm ss _).trans hp)
 refine (List.pairwise_mergeSort (le := fun x y : Int => decide (x ≤ y)) (fun a b c h1 h2 => by simp at *; omega) (fun a b => by simp; omega) ss).imp ?_
 intro a b h; simpa using h
def Has (D : DataW Unit) (l : List Int) : Prop := ∀ x, has D (.int .u32 x) = true ↔ x ∈ l
theorem Has.put {D : DataW Unit} {l : List Int} (h : Has D l) (hm : IsMap D) (a : Int) (d : DataW Unit) : Has (D.put (.int .u32 a) d) (addIn a l) := by
 intro x
 rw [bY]
 by_cases hx : x = a
 ·subst hx
  simp [has_put_same hm (show WideAt.IsKeyLit (Lit.int .u32 x) from trivial)]
 ·rw [has_put_other (by simpa using hx), h x]
  simp [hx]
theorem sF (w : World) : (zeroValue 3).run Tryz.prog w = .ok (.int .i64 0) w := by kernel_rfl
theorem enters_keys : ∀ args w, (callFunc 104 args).run Tryz.prog w = .ok (.enter 104 args) w := enters_of Tryz.func104 (by kernel_rfl) rfl
theorem sortedKeys_c (hs : ∀ m, Sorts_u Fence.wide m) (b nn : Nat) (D : DataW Unit) (l : List Int) (w : World) (hown : w.ownsMap Tryz.prog 38 (plainElem Tryz.prog 3) b nn D) (hD : Has D l) (hr : l.Pairwise (· < ·)) (hn : nn ≤ 4294967296) (Bm : Nat) (hBm : Bm < w.heap.size) (hm : w.cell? ⟨Bm, 0, none⟩ = some (.map (some b))) :
  Calls Tryz.prog 74 #[.func (.func 104) #[] #[.pointer (some ⟨Bm, 0, none⟩)]] w fun e w' => ∃ v, e = .returned v ∧ w'.ownsRow w.heap.size 38 1 v l.length (l.map (Value.int .u32)) ∧ (v = .slice none 0 0 ↔ l = []) ∧ Below w.heap.size w w' := by
 refine callsIn_wide.1 ((sorted_u Fence.wide (fun _ => trivial) 5 rfl (by omega) (hs _) _ _ enters_keys KeepsWalks _ _ (Maps.size D) ?_ ?_ w walksK_t walksK_b (fun _ _ h _ => h.walks) (keys_stops Fence.wide (fun _ => trivial) _ rfl (by omega) Bm b nn D w hBm hm hown)).mono ?_)
 ·have := hown.size_le
  unfold maxLen; omega
 ·have := hown.size_le
  omega
 ·rintro e w' ⟨v, ss, rfl, ⟨hnd, hk⟩, _, hrow, hnil, hb⟩
  have e1 := sorted_same hnd hr (fun x => by rw [hk x]; exact hD x)
  have e2 : ss.length = l.length := by rw [← e1, List.length_mergeSort]
  rw [e1, e2] at hrow
  refine ⟨v, rfl, hrow, ?_, hb⟩
  rw [hnil]
  constructor
  ·intro h; subst h; exact List.length_eq_zero_iff.1 e2.symm
  ·intro h; subst h; exact List.length_eq_zero_iff.1 e2
theorem u32_wf {a : Int} (h1 : 0 ≤ a) (h2 : a < 4294967296) : (Lit.int .u32 a).wf = true := by
 simp only [Lit.wf, Bool.and_eq_true, decide_eq_true_eq]
 have e1 : IntKind.u32.min = 0 := by decide
 have e2 : IntKind.u32.max = 4294967295 := by decide
 omega
theorem hZ (q : IntKind) {w : World} {base : Nat} {e : TypeId} {v : Value} {l : List Int} (hl : l.length ≤ 1152921504606846976) (h : w.ownsRow base e 1 v l.length (l.map (Value.int q))) :
  ∃ s : Sl, v = .slice s.a s.n s.c ∧ IntsIn q w.heap.size w s l := by
 rcases h.2 with ⟨rfl, hz⟩ | ⟨gb, cap, cur, rfl, hbase, hgb, r1, r2, r3, r4⟩
 ·have : l = [] := List.eq_nil_of_length_eq_zero hz
  subst this
  exact ⟨⟨none, 0, 0⟩, rfl, rfl, by simp, Or.inl rfl⟩
 ·have hH : Holds (Value.int q) w gb 0 l.toArray := xD _ hgb (by simpa using r4)
  refine ⟨⟨some ⟨gb, 0, none⟩, l.length, cap⟩, rfl, rfl, hl, Or.inr ⟨gb, 0, rfl, (Array.getElem?_eq_some_iff.1 hgb).1, fun k hk => ?_⟩⟩
  have := (hH k (by simpa using hk)).1
  rw [this]
  simp [List.getD, hk]
theorem ownsMap_below {b nn n₀ : Nat} {D : DataW Unit} {w w' : World} (h : w.ownsMap Tryz.prog 38 (plainElem Tryz.prog 3) b nn D) (hb : Below n₀ w w') (hlt : b < n₀) : w'.ownsMap Tryz.prog 38 (plainElem Tryz.prog 3) b nn D := by
 obtain ⟨es, clock, hb', Ft, hs, hD⟩ := h
 exact ⟨es, clock, (hb.block b hlt).trans hb', Ft, hs, hD⟩
set_option maxRecDepth 100000 in
set_option maxHeartbeats 2000000 in
theorem addresses_c (hs : ∀ m, Sorts_u Fence.wide m) (x : Ex) (w : World) (hx : EvsIn w.heap.size w x.es x.evs) (hlen : x.evs.length ≤ 64) :
  Calls Tryz.prog 51 #[x.agg] w fun o w' => ∃ s : Sl, o = .returned (.slice s.a s.n s.c) ∧ IntsIn .u32 w'.heap.size w' s (addrsTo x.evs) ∧ Below w.heap.size w w' := by
 obtain ⟨⟨ea, en, ec⟩, ⟨fa, fn, fc⟩, ⟨oa, on, oc⟩, evs, from_, order⟩ := x
 obtain ⟨e1, esm, hev, ecl⟩ := hx
 dsimp only at e1 esm hev ecl hlen
 subst e1
 unfold Ex.agg
 dsimp only
 have hmm := @run_makeMap Tryz.prog
 have KS := Lib.hid (fun mb w => callsIn_wide.1 (keys_u Fence.wide (fun _ => trivial) 0 rfl mb w))
 go_enter Tryz.func51, Tryz.ntmps51
 go_upto_region 1 with (fail)
 refine wH (X := fun W => Code.wp _ _ _ _ W) ?_
 intro wc hb hsz hcs
 have c0 : wc.cell? ⟨w.heap.size, 0, none⟩ = some (.slice ea evs.length ec) := hcs 0 _ rfl
 clear hcs
 have HEV := Lib.hid hev
 have HCL := Lib.hid ecl
 clear hev ecl
 go_wp2
 go_loopw [10] (fun i wr => ∃ (k nn : Nat) (D : DataW Unit), k ≤ evs.length ∧ i = .int .i64 k ∧ nn ≤ k ∧ wr.ownsMap Tryz.prog 38 (plainElem Tryz.prog 3) wc.heap.size nn D ∧ Has D (addrsTo (evs.take k)) ∧ Below wc.heap.size wc wr) (fun i _ => evs.length - (intOf i).toNat)
 case atStart => exact ⟨0, 0, .map [], by omega, rfl, by omega, World.ownsMap_made _ _ _ _, fun y => by simp [addrsTo, Maps.has], (Below.refl _ _).alloc (Nat.le_refl _) _⟩
 case round =>
  obtain ⟨k, nn, D, hk, rfl, hnn, hown, hD, hbr⟩ := hrel
  have c0r : wr.cell? ⟨w.heap.size, 0, none⟩ = some (.slice ea evs.length ec) := (hbr.cell (p := ⟨w.heap.size, 0, none⟩) hsz).trans c0
  have HD := Lib.hid hD
  clear hD hmm
  by_cases hlt : k < evs.length
  ·obtain ⟨b, off, rfl, hbB, hcl⟩ := HCL.out.resolve_left (by intro h; rw [h] at hlt; simp at hlt)
   obtain ⟨E, hE⟩ : ∃ E, evs.getD k default = E := ⟨_, rfl⟩
   have hmem : E ∈ evs := by rw [← hE, List.getD_eq_getElem?_getD, List.getElem?_eq_getElem hlt]; exact List.getElem_mem hlt
   have hwf := (HEV.out E hmem).2.2.2
   have hcE := ((hcl k hlt).below hb hbB).below hbr (show b < wc.heap.size by omega)
   rw [hE] at hcE
   unfold EvCells at hcE
   obtain ⟨q0, q1, q2, q3, q4, q5, q6, q7, q8, q9, q10, q11, q12⟩ := hcE
   have HT : Hid (addrsTo (evs.take (k + 1)) = if E.kind = 4 then addrsTo (evs.take k) else addIn E.addr (addrsTo (evs.take k))) := Lib.hid (by
    rw [← eR, List.take_succ_eq_append_getElem hlt, ← hE]; simp [List.getD, hlt])
   have hkey : keyOf Tryz.prog 38 (.int .u32 E.addr) = some (.int .u32 E.addr) := keyOf_int_mk Tryz.underlying38 (u32_wf hwf.2.2.1.1 hwf.2.2.1.2)
   clear hE hmem hwf hcl
   go_upto_region 5 with (fail)
   refine wH (X := fun W => Code.wp _ _ _ _ W) ?_
   intro w1 hb1 hs1 hcs1
   have t0 : (w1).cell? ⟨wr.heap.size, 0, none⟩ = some (Value.int IntKind.i64 E.hart) := hcs1 0 _ rfl
   have t1 : (w1).cell? ⟨wr.heap.size, 1, none⟩ = some (Value.int IntKind.i64 E.kind) := hcs1 1 _ rfl
   have t2 : (w1).cell? ⟨wr.heap.size, 2, none⟩ = some (Value.int IntKind.u32 E.addr) := hcs1 2 _ rfl
   have t3 : (w1).cell? ⟨wr.heap.size, 3, none⟩ = some (Value.int IntKind.u32 E.val) := hcs1 3 _ rfl
   have t4 : (w1).cell? ⟨wr.heap.size, 4, none⟩ = some (Value.int IntKind.u32 E.rval) := hcs1 4 _ rfl
   have t5 : (w1).cell? ⟨wr.heap.size, 5, none⟩ = some (Value.bool E.aq) := hcs1 5 _ rfl
   have t6 : (w1).cell? ⟨wr.heap.size, 6, none⟩ = some (Value.bool E.rl) := hcs1 6 _ rfl
   have t7 : (w1).cell? ⟨wr.heap.size, 7, none⟩ = some (Value.int IntKind.i64 E.pred) := hcs1 7 _ rfl
   have t8 : (w1).cell? ⟨wr.heap.size, 8, none⟩ = some (Value.int IntKind.i64 E.succ) := hcs1 8 _ rfl
   have t9 : (w1).cell? ⟨wr.heap.size, 9, none⟩ = some (Value.bool E.rsv) := hcs1 9 _ rfl
   have t10 : (w1).cell? ⟨wr.heap.size, 10, none⟩ = some (Value.slice E.av.a E.av.n E.av.c) := hcs1 10 _ rfl
   have t11 : (w1).cell? ⟨wr.heap.size, 11, none⟩ = some (Value.slice E.dv.a E.dv.n E.dv.c) := hcs1 11 _ rfl
   have t12 : (w1).cell? ⟨wr.heap.size, 12, none⟩ = some (Value.slice E.cv.a E.cv.n E.cv.c) := hcs1 12 _ rfl
   clear hcs1 q0 q1 q2 q3 q4 q5 q6 q7 q8 q9 q10 q11 q12
   have hz1 := hbr.size
   have own1 : w1.ownsMap Tryz.prog 38 (plainElem Tryz.prog 3) wc.heap.size nn D := ownsMap_below hown hb1 hown.lt
   have hb2 : Below wc.heap.size wc w1 := hbr.trans (hb1.mono hz1)
   have OW := Lib.hid hown
   clear hown
   by_cases hf : (E.kind != 4) = true
   ·have hne : E.kind ≠ 4 := by simpa using hf
    go_wp2_with (first
     | (at_lookup; refine wpList_lookup_own_int _ rfl _ _ 103 rfl 38 3 .i64 sD Tryz.underlying103 Tryz.underlying3 (sF _) wc.heap.size nn _ rfl own1 _ _ rfl hkey ?_; intro c hat hwc)
     | (at_mapUpdate; refine wpList_mapUpdate_own _ rfl _ _ _ 103 rfl 38 3 sD Tryz.underlying103 _ wc.heap.size nn _ rfl own1 (by unfold maxLen; omega) _ _ _ rfl rfl hkey _ [] (plainElem_int Tryz.underlying3 (wrap64_wf _)) ?_; intro w2 hown2 hgrow2)
     | go_in)
    go_roundw
    case rel => exact ⟨k + 1, nn + 1, _, by omega, by go_num, by omega, hown2, by rw [HT.out, if_neg hne]; exact HD.out.put own1.isMap _ _, hb2.grown hgrow2 hb2.size (fun j hj => by cases hj; exact Nat.le_refl _)⟩
    case measure => simp [intOf]; omega
   ·have hf2 : (E.kind != 4) = false := by simpa using hf
    have he4 : E.kind = 4 := by simpa using hf2
    clear hf
    go_wp2
    go_roundw
    case rel => exact ⟨k + 1, nn, D, by omega, by go_num, by omega, own1, by rw [HT.out, if_pos he4]; exact HD.out, hb2⟩
    case measure => simp [intOf]; omega
  ·have hk2 : k = evs.length := by omega
   have HL : Hid (addrsTo (evs.take k) = addrsTo evs) := Lib.hid (by rw [hk2, List.take_length])
   have hnotlt : ¬ k < evs.length := hlt
   have own1 : (wr.alloc (.cells #[.map (some wc.heap.size)] 103)).ownsMap Tryz.prog 38 (plainElem Tryz.prog 3) wc.heap.size nn D := hown.alloc _
   have ctr : Hid (Calls Tryz.prog 74 #[.func (.func 104) #[] #[.pointer (some ⟨wr.heap.size, 0, none⟩)]] (wr.alloc (.cells #[.map (some wc.heap.size)] 103)) fun e w' =>
     ∃ v, e = .returned v ∧ w'.ownsRow (wr.alloc (.cells #[.map (some wc.heap.size)] 103)).heap.size 38 1 v (addrsTo evs).length ((addrsTo evs).map (Value.int .u32)) ∧ (v = .slice none 0 0 ↔ addrsTo evs = []) ∧ Below (wr.alloc (.cells #[.map (some wc.heap.size)] 103)).heap.size (wr.alloc (.cells #[.map (some wc.heap.size)] 103)) w') := Lib.hid (sortedKeys_c hs wc.heap.size nn D (addrsTo evs) _ own1 (by rw [← HL.out]; exact HD.out) (yW evs) (by omega) wr.heap.size (by simp) (by simp))
   clear own1 hs
   go_wp2_with (first
    | (go_at_call 75; refine (KS.out _ _).mono ?_; rintro e w' ⟨rfl, rfl⟩)
    | (go_at_call 74; refine ctr.out.mono ?_; rintro e w5 ⟨v, rfl, hrow, hnil, hb5⟩))
   go_ret
   obtain ⟨s, hv, hi⟩ := hZ .u32 (by have := yB evs; omega) hrow
   refine ⟨s, by rw [hv]; rfl, hi, ?_⟩
   have hb6 : Below wr.heap.size wr w5 := ((Below.refl wr.heap.size wr).alloc (Nat.le_refl _) _).trans (hb5.mono (by simp))
   exact hb.trans ((hbr.trans (hb6.mono hbr.size)).mono (by omega))
open Go.Sort Go.RowKit
theorem xorshift_Next_u (rb ro X : Nat) (hX : X < 18446744073709551616) (w : World) (hc : w.cell? ⟨rb, ro, none⟩ = some (.int .u64 X)) (hf : w.frozen? ⟨rb, ro, none⟩ = false) :
  Calls Tryz.prog 159 #[.pointer (some ⟨rb, ro, none⟩)] w fun e w' => e = .returned (.int .u64 (xorNextN X : Nat)) ∧ w' = (w.setCell ⟨rb, ro, none⟩ (.int .u64 (xorNextN X : Nat))).drewN 3 := by
 obtain ⟨A, hA⟩ : ∃ A : Nat, A = X ^^^ (X * 8192 % 18446744073709551616) := ⟨_, rfl⟩
 obtain ⟨B, hB⟩ : ∃ B : Nat, B = A ^^^ (A / 128) := ⟨_, rfl⟩
 obtain ⟨C, hC⟩ : ∃ C : Nat, C = B ^^^ (B * 131072 % 18446744073709551616) := ⟨_, rfl⟩
 have lA : A < 18446744073709551616 := by rw [hA]; exact Nat.xor_lt_two_pow (n := 64) (by omega) (by omega)
 have lB : B < 18446744073709551616 := by rw [hB]; exact Nat.xor_lt_two_pow (n := 64) (by omega) (by omega)
 have e1 : bits .xor .u64 (X : Int) (IntKind.u64.wrap ((X : Int) * 8192)) = (A : Int) := by
  rw [IntKind.wrap_u64, show ((X : Int) * 8192 % 18446744073709551616) = ((X * 8192 % 18446744073709551616 : Nat) : Int) by omega, bits_xor_u64_nat _ _ hX (by omega), hA]
 have e2 : bits .xor .u64 (A : Int) ((A : Int) / 128) = (B : Int) := by
  rw [show ((A : Int) / 128) = ((A / 128 : Nat) : Int) by omega, bits_xor_u64_nat _ _ lA (by omega), hB]
 have e3 : bits .xor .u64 (B : Int) (IntKind.u64.wrap ((B : Int) * 131072)) = (C : Int) := by
  rw [IntKind.wrap_u64, show ((B : Int) * 131072 % 18446744073709551616) = ((B * 131072 % 18446744073709551616 : Nat) : Int) by omega, bits_xor_u64_nat _ _ lB (by omega), hC]
 have hv : xorNextN X = C := by unfold xorNextN; simp only []; rw [← hA, ← hB, ← hC]
 rw [hv]
 clear hA hB hC hv
 have hss : ∀ v v', (w.setCell ⟨rb, ro, none⟩ v).setCell ⟨rb, ro, none⟩ v' = w.setCell ⟨rb, ro, none⟩ v' := setCell_setCell w rb ro
 go_enter Tryz.func159, Tryz.ntmps159
 go_wp2
 go_region
 all_goals go_wp2
 all_goals go_region
 all_goals go_wp2
 all_goals go_region
 all_goals go_wp2
 go_ret
 exact ⟨rfl, rfl⟩
theorem nextPowerOfTwo_u (n : Nat) (hn : n < 4611686018427387904) (w : World) :
  Calls Tryz.prog 158 #[.int .i64 n] w fun e w' => e = .returned (.int .u64 ((1 <<< bitsLen n : Nat) : Int)) ∧ w' = w := by
 have hLen : ∀ w, Calls Tryz.prog 101 #[.int .u64 (n : Int)] w fun e w' => e = .returned (.int .i64 (bitsLen n : Nat)) ∧ w' = w := fun w => by
  have h := Tryz.bits_Len (n : Int) w (by omega) (by omega)
  rwa [Int.toNat_natCast, bitLen_eq _ (by omega)] at h
 have hk : bitsLen n ≤ 62 := (bitsLen_le_iff n 62).2 (by omega)
 have hp := wrap_two_pow (bitsLen n) hk
 go_enter Tryz.func158, Tryz.ntmps158
 go_wp2_with (first | (go_at_call 101; refine (hLen _).mono ?_; rintro e w' ⟨rfl, rfl⟩))
 go_ret
 exact ⟨rfl, rfl⟩
set_option maxHeartbeats 1000000 in
set_option maxRecDepth 100000 in
theorem breakPatterns_u_go (blk off cap a L : Nat) (d : Array Int) (w : World) (hH : Holds encU w blk off d) (hblk : blk < w.heap.size) (hb : a + L ≤ d.size) (hsz : d.size < 4611686018427387904) (h8 : 8 ≤ L) :
  Calls Tryz.prog 165 #[.slice (some ⟨blk, off, none⟩) d.size cap, .int .i64 a, .int .i64 ((a + L : Nat) : Int)] w fun e w' =>
   e = .returned (.tuple #[]) ∧ ∃ n os, w' = grow (putRow encU (Sort.ahead w n) blk off (breakPatterns d a (a + L))) os := by
 rw [breakPatterns_eq d a L h8]
 obtain ⟨M, hM⟩ : ∃ M : Nat, M = 1 <<< bitsLen L := ⟨_, rfl⟩
 have hM1 : 1 ≤ M := by rw [hM, Nat.one_shiftLeft]; exact Nat.two_pow_pos _
 have hM2 : M ≤ 2 * L := by rw [hM, Nat.one_shiftLeft]; exact two_pow_bitsLen_le (by omega)
 have hNP : ∀ w, Calls Tryz.prog 158 #[.int .i64 (L : Int)] w fun e w' => e = .returned (.int .u64 (M : Int)) ∧ w' = w := by rw [hM]; exact fun w => nextPowerOfTwo_u L (by omega) w
 rw [← hM]
 clear hM
 have HH : Hid (Holds encU w blk off d) := hH
 have HST : Hid (w.alloc (Obj.cells #[.int .u64 (L : Int)] 153) = grow (putRow encU (Sort.ahead w 0) blk off d) #[Obj.cells #[.int .u64 ((UInt64.ofNat L).toNat : Int)] 153]) := by
  show _ = _
  rw [show Sort.ahead w 0 = w from rfl, putRow_self _ _ _ _ _ hH, alloc_eq_grow, show (UInt64.ofNat L).toNat = L from by simp; omega]
 clear hH
 go_enter Tryz.func165, Tryz.ntmps165
 go_wp2_with (first | (go_at_call 158; rw [show ((a : Int) + (L : Int) - (a : Int)) = (L : Int) by omega]; refine (hNP _).mono ?_; rintro e w' ⟨rfl, rfl⟩))
 go_loopw [9] (fun vi wr => ∃ (t n : Nat) (r : UInt64) (dk : Array Int), vi = .int .i64 ((a + L / 4 * 2 - 1 + t : Nat) : Int) ∧ t ≤ 3 ∧ dk.size = d.size ∧
   wr = grow (putRow encU (Sort.ahead w n) blk off dk) #[Obj.cells #[.int .u64 (r.toNat : Int)] 153] ∧
   bpRest a L M (a + L / 4 * 2 - 1) (3 - t) t (r, dk) = bpRest a L M (a + L / 4 * 2 - 1) 3 0 (UInt64.ofNat L, d)) (fun vi _ => a + L / 4 * 2 + 3 - (intOf vi).toNat)
 case atStart => exact ⟨0, 0, UInt64.ofNat L, d, by congr 1; omega, by omega, rfl, HST.out, rfl⟩
 case round =>
  obtain ⟨t, n, r, dk, rfl, ht, hsk, hw, hR⟩ := hrel
  obtain ⟨R, hRr⟩ : ∃ R : Nat, R = r.toNat := ⟨_, rfl⟩
  have lR : R < 18446744073709551616 := by rw [hRr]; exact r.toNat_lt
  obtain ⟨R', hR'⟩ : ∃ R' : Nat, R' = xorNextN R := ⟨_, rfl⟩
  have lR' : R' < 18446744073709551616 := by rw [hR']; exact xorNextN_lt R lR
  obtain ⟨O, hO⟩ : ∃ O : Nat, O = R' &&& (M - 1) := ⟨_, rfl⟩
  have lO : O ≤ M - 1 := by rw [hO]; exact Nat.and_le_right
  have eAnd : bits .and .u64 (R' : Int) ((M : Int) - 1) = (O : Int) := by
   rw [show ((M : Int) - 1) = ((M - 1 : Nat) : Int) by omega, bits_and_u64_nat _ _ lR' (by omega), hO]
  obtain ⟨G, hG⟩ : ∃ G : Nat → Int, ∀ x, G x = dk[x]! := ⟨fun x => dk[x]!, fun _ => rfl⟩
  have hz : (putRow encU (Sort.ahead w n) blk off dk).heap.size = w.heap.size := by simp
  have hcw : ∀ x, x < d.size → wr.cell? ⟨blk, off + x, none⟩ = some (.int .u32 (G x)) := fun x hx => by
   rw [hw, cell?_grow _ _ _ (by rw [hz]; exact hblk), hG]; exact cell?_putRow _ _ _ _ d dk (holds_ahead _ _ _ _ _ _ HH.out) hsk x (by omega)
  have hfw : ∀ x, x < d.size → wr.frozen? ⟨blk, off + x, none⟩ = false := fun x hx => by
   rw [hw, frozen?_grow _ _ _ (by rw [hz]; exact hblk), frozen?_putRow]; exact ((holds_ahead _ _ n _ _ _ HH.out) x hx).2
  have hcB : wr.cell? ⟨w.heap.size, 0, none⟩ = some (.int .u64 (R : Int)) := by rw [hw, hRr, ← hz]; exact grow_one_cell _ _ _
  have hfB : wr.frozen? ⟨w.heap.size, 0, none⟩ = false := by rw [hw, ← hz]; exact grow_one_frozen _ _ _
  have hNext : Calls Tryz.prog 159 #[.pointer (some ⟨w.heap.size, 0, none⟩)] wr fun e w' => e = .returned (.int .u64 (R' : Int)) ∧ w' = (wr.setCell ⟨w.heap.size, 0, none⟩ (.int .u64 (R' : Int))).drewN 3 := by
   rw [hR']; exact xorshift_Next_u _ _ R lR wr hcB hfB
  have HW : Hid (wr = grow (putRow encU (Sort.ahead w n) blk off dk) #[Obj.cells #[.int .u64 (r.toNat : Int)] 153]) := hw
  have HG : Hid (∀ x, G x = dk[x]!) := hG
  have HR : Hid (bpRest a L M (a + L / 4 * 2 - 1) (3 - t) t (r, dk) = bpRest a L M (a + L / 4 * 2 - 1) 3 0 (UInt64.ofNat L, d)) := hR
  have HN : Hid (R' = (xorNext r).toNat ∧ O = (xorNext r).toNat &&& (M - 1)) := by
   have e : R' = (xorNext r).toNat := by rw [hR', hRr, xorNext_toNat]
   exact ⟨e, by rw [hO, e]⟩
  clear hw hG hR hRr hR' hO
  go_wp2_with (first | (go_at_call 159; refine hNext.mono ?_; rintro e w' ⟨rfl, rfl⟩))
  ·
   have hLO : L ≤ O := by omega
   by_cases hEq : a + L / 4 * 2 - 1 + t = a + (O - L)
   all_goals
    go_region
    all_goals go_wp2
    go_roundw
    case rel =>
     refine ⟨t + 1, n + 4, xorNext r, swp dk (a + L / 4 * 2 - 1 + t) (a + (O - L)), by first | rfl | (congr 1 <;> omega), by omega, by rw [size_swp]; exact hsk, ?_, ?_⟩
     ·try rw [hEq]
      rw [HW.out, HN.out.1]
      simp only [HG.out]
      exact step_world encU w n 4 blk off dk _ _ hblk (by omega) (by omega) _ _ _
     ·rw [← HR.out, bp_step a L M _ t r dk (O - L) (by omega) (by rw [← HN.out.2, if_pos (by omega)])]
    case measure => simp [intOf]; omega
  ·have hLO : ¬ L ≤ O := by omega
   by_cases hEq : a + L / 4 * 2 - 1 + t = a + O
   all_goals
    go_region
    all_goals go_wp2
    go_roundw
    case rel =>
     refine ⟨t + 1, n + 4, xorNext r, swp dk (a + L / 4 * 2 - 1 + t) (a + O), by first | rfl | (congr 1 <;> omega), by omega, by rw [size_swp]; exact hsk, ?_, ?_⟩
     ·try rw [hEq]
      rw [HW.out, HN.out.1]
      simp only [HG.out]
      exact step_world encU w n 4 blk off dk _ _ hblk (by omega) (by omega) _ _ _
     ·rw [← HR.out, bp_step a L M _ t r dk O (by omega) (by rw [← HN.out.2, if_neg (by omega)])]
    case measure => simp [intOf]; omega
  ·
   obtain rfl : t = 3 := by omega
   go_end0
   exact ⟨rfl, n, _, by rw [← HR.out, HW.out]; rfl⟩
theorem breakPatterns_u (blk off cap a b : Nat) (d : Array Int) (w : World) (hH : Holds encU w blk off d) (hblk : blk < w.heap.size) (hab : a ≤ b) (hb : b ≤ d.size) (hsz : d.size < 4611686018427387904) :
  Calls Tryz.prog 165 #[.slice (some ⟨blk, off, none⟩) d.size cap, .int .i64 a, .int .i64 b] w fun e w' =>
   e = .returned (.tuple #[]) ∧ ∃ n os, w' = grow (putRow encU (Sort.ahead w n) blk off (breakPatterns d a b)) os := by
 obtain ⟨L, rfl⟩ : ∃ L, b = a + L := ⟨b - a, by omega⟩
 by_cases h8 : 8 ≤ L
 ·exact breakPatterns_u_go blk off cap a L d w hH hblk hb hsz h8
 ·have hv : breakPatterns d a (a + L) = d := by unfold breakPatterns; simp only [Nat.add_sub_cancel_left]; rw [if_neg h8]
  rw [hv]
  have HST : Hid (w = grow (putRow encU (Sort.ahead w 0) blk off d) #[]) := by
   show _ = _
   rw [grow_empty, show Sort.ahead w 0 = w from rfl, putRow_self _ _ _ _ _ hH]
  clear hH
  go_enter Tryz.func165, Tryz.ntmps165
  go_wp2
  go_end0
  exact ⟨rfl, 0, #[], HST.out⟩
end Go.Proofs.YtnkocjkkefnelaaGreat
