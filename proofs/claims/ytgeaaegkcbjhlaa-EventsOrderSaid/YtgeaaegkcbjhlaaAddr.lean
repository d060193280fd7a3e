/- The addresses that events have, rising. -/
import Derived.Test.YtgeaaegkcbjhlaaColl
import Derived.Test.YtgeaaegkcbjhlaaMem
import Derived.Maps.OwnOps
import Derived.Maps.OwnSet
import Derived.Maps.Views
namespace Go.Proofs.Ytgeaaegkcbjhlaa
open Go.RowKit Go.Maps Go.Sort

/-- a number into a rising list, once -/
def addIn (a : Int) : List Int → List Int
  | [] => [a]
  | x :: r => if x < a then x :: addIn a r else if x = a then x :: r else a :: x :: r
def addrsTo (es : List Ev) : List Int := es.foldl (fun l e => if e.kind = 4 then l else addIn e.addr l) []
theorem mem_addIn (a x : Int) : ∀ l, x ∈ addIn a l ↔ x = a ∨ x ∈ l
  | [] => by simp [addIn]
  | y :: r => by
    unfold addIn
    split
    · simp only [List.mem_cons, mem_addIn a x r]; exact or_left_comm
    · split
      · rename_i h1 h2; subst h2; simp
      · simp
theorem addIn_rising (a : Int) : ∀ l : List Int, l.Pairwise (· < ·) → (addIn a l).Pairwise (· < ·)
  | [], _ => by simp [addIn]
  | y :: r, h => by
    rw [List.pairwise_cons] at h
    unfold addIn
    split
    · rename_i h1
      rw [List.pairwise_cons]
      exact ⟨fun z hz => by rcases (mem_addIn a z r).1 hz with rfl | hz; exact h1; exact h.1 z hz, addIn_rising a r h.2⟩
    · split
      · exact List.pairwise_cons.2 h
      · rename_i h1 h2
        rw [List.pairwise_cons]
        exact ⟨fun z hz => by rcases List.mem_cons.1 hz with rfl | hz; omega; have := h.1 z hz; omega, List.pairwise_cons.2 h⟩
theorem addrsTo_snoc (es : List Ev) (e : Ev) : addrsTo (es ++ [e]) = if e.kind = 4 then addrsTo es else addIn e.addr (addrsTo es) := by
  simp [addrsTo, List.foldl_append]
theorem addrsTo_rising (es : List Ev) : (addrsTo es).Pairwise (· < ·) := by
  suffices h : ∀ (es : List Ev) (l : List Int), l.Pairwise (· < ·) → (es.foldl (fun l e => if e.kind = 4 then l else addIn e.addr l) l).Pairwise (· < ·) from h es [] (by simp)
  intro es
  induction es with
  | nil => intro l h; exact h
  | cons e r ih =>
    intro l h
    rw [List.foldl_cons]
    refine ih _ ?_
    split
    · exact h
    · exact addIn_rising _ _ h
theorem length_addIn (a : Int) : ∀ l : List Int, (addIn a l).length ≤ l.length + 1
  | [] => by simp [addIn]
  | y :: r => by
    unfold addIn
    split
    · simp; exact length_addIn a r
    · split <;> simp
theorem addrsTo_len (es : List Ev) : (addrsTo es).length ≤ es.length := by
  suffices h : ∀ (es : List Ev) (l : List Int), (es.foldl (fun l e => if e.kind = 4 then l else addIn e.addr l) l).length ≤ l.length + es.length from by simpa [addrsTo] using h es []
  intro es
  induction es with
  | nil => intro l; simp
  | cons e r ih =>
    intro l
    rw [List.foldl_cons]
    refine Nat.le_trans (ih _) ?_
    split
    · simp
    · have := length_addIn e.addr l
      simp; omega
/-- what is sorted and has the same members, each once, is the list -/
theorem sorted_same {ss l : List Int} (hn : ss.Nodup) (hl : l.Pairwise (· < ·)) (hm : ∀ x, x ∈ ss ↔ x ∈ l) : ss.mergeSort (fun x y => decide (x ≤ y)) = l := by
  have hp : ss.Perm l := (List.perm_ext_iff_of_nodup hn (hl.imp (fun h => by omega))).2 hm
  refine List.Perm.eq_of_pairwise (le := fun a b : Int => a ≤ b) (fun a b _ _ h1 h2 => by omega) ?_ (hl.imp (fun h => by omega)) ((List.mergeSort_perm ss _).trans hp)
  refine (List.pairwise_mergeSort (le := fun x y : Int => decide (x ≤ y)) (fun a b c h1 h2 => by simp at *; omega) (fun a b => by simp; omega) ss).imp ?_
  intro a b h; simpa using h

/-- the map holds the addresses -/
def Has (D : DataW Unit) (l : List Int) : Prop := ∀ x, has D (.int .u32 x) = true ↔ x ∈ l
theorem Has.put {D : DataW Unit} {l : List Int} (h : Has D l) (hm : IsMap D) (a : Int) (d : DataW Unit) : Has (D.put (.int .u32 a) d) (addIn a l) := by
  intro x
  rw [mem_addIn]
  by_cases hx : x = a
  · subst hx
    simp [has_put_same hm (show WideAt.IsKeyLit (Lit.int .u32 x) from trivial)]
  · rw [has_put_other (by simpa using hx), h x]
    simp [hx]

theorem zeroI (w : World) : (zeroValue 3).run Try.prog w = .ok (.int .i64 0) w := by kernel_rfl
theorem enters_keys : ∀ args w, (callFunc 58 args).run Try.prog w = .ok (.enter 58 args) w := enters_of Try.func58 (by kernel_rfl) rfl

/-- slices.Sorted(maps.Keys(m)), of a map of the call's own -/
theorem sortedKeys_c (hs : ∀ m, Sorts_u Fence.wide m) (b nn : Nat) (D : DataW Unit) (l : List Int) (w : World) (hown : w.ownsMap Try.prog 42 (plainElem Try.prog 3) b nn D) (hD : Has D l) (hr : l.Pairwise (· < ·)) (hn : nn ≤ 4294967296) (Bm : Nat) (hBm : Bm < w.heap.size) (hm : w.cell? ⟨Bm, 0, none⟩ = some (.map (some b))) :
    Calls Try.prog 47 #[.func (.func 58) #[] #[.pointer (some ⟨Bm, 0, none⟩)]] w fun e w' => ∃ v, e = .returned v ∧ w'.ownsRow w.heap.size 42 1 v l.length (l.map (Value.int .u32)) ∧ (v = .slice none 0 0 ↔ l = []) ∧ Below w.heap.size w w' := by
  refine callsIn_wide.1 ((sorted_u Fence.wide (fun _ => trivial) 5 rfl (by omega) (hs _) _ _ enters_keys KeepsWalks _ _ (Maps.size D) ?_ ?_ w walksK_t walksK_b (fun _ _ h _ => h.walks) (keys_stops Fence.wide (fun _ => trivial) _ rfl (by omega) Bm b nn D w hBm hm hown)).mono ?_)
  · have := hown.size_le
    unfold maxLen; omega
  · have := hown.size_le
    omega
  · rintro e w' ⟨v, ss, rfl, ⟨hnd, hk⟩, _, hrow, hnil, hb⟩
    have e1 := sorted_same hnd hr (fun x => by rw [hk x]; exact hD x)
    have e2 : ss.length = l.length := by rw [← e1, List.length_mergeSort]
    rw [e1, e2] at hrow
    refine ⟨v, rfl, hrow, ?_, hb⟩
    rw [hnil]
    constructor
    · intro h; subst h; exact List.length_eq_zero_iff.1 e2.symm
    · intro h; subst h; exact List.length_eq_zero_iff.1 e2
theorem u32_wf {a : Int} (h1 : 0 ≤ a) (h2 : a < 4294967296) : (Lit.int .u32 a).wf = true := by
  simp only [Lit.wf, Bool.and_eq_true, decide_eq_true_eq]
  have e1 : IntKind.u32.min = 0 := by decide
  have e2 : IntKind.u32.max = 4294967295 := by decide
  omega
theorem row_ints (q : IntKind) {w : World} {base : Nat} {e : TypeId} {v : Value} {l : List Int} (hl : l.length ≤ 1152921504606846976) (h : w.ownsRow base e 1 v l.length (l.map (Value.int q))) :
    ∃ s : Sl, v = .slice s.a s.n s.c ∧ IntsIn q w.heap.size w s l := by
  rcases h.2 with ⟨rfl, hz⟩ | ⟨gb, cap, cur, rfl, hbase, hgb, r1, r2, r3, r4⟩
  · have : l = [] := List.eq_nil_of_length_eq_zero hz
    subst this
    exact ⟨⟨none, 0, 0⟩, rfl, rfl, by simp, Or.inl rfl⟩
  · have hH : Holds (Value.int q) w gb 0 l.toArray := holds_of_blockE _ hgb (by simpa using r4)
    refine ⟨⟨some ⟨gb, 0, none⟩, l.length, cap⟩, rfl, rfl, hl, Or.inr ⟨gb, 0, rfl, (Array.getElem?_eq_some_iff.1 hgb).1, fun k hk => ?_⟩⟩
    have := (hH k (by simpa using hk)).1
    rw [this]
    simp [List.getD, hk]

theorem ownsMap_below {b nn n₀ : Nat} {D : DataW Unit} {w w' : World} (h : w.ownsMap Try.prog 42 (plainElem Try.prog 3) b nn D) (hb : Below n₀ w w') (hlt : b < n₀) : w'.ownsMap Try.prog 42 (plainElem Try.prog 3) b nn D := by
  obtain ⟨es, clock, hb', Ft, hs, hD⟩ := h
  exact ⟨es, clock, (hb.block b hlt).trans hb', Ft, hs, hD⟩

set_option maxRecDepth 100000 in
set_option maxHeartbeats 2000000 in
theorem addresses_c (hs : ∀ m, Sorts_u Fence.wide m) (x : Ex) (w : World) (hx : EvsIn w.heap.size w x.es x.evs) (hlen : x.evs.length ≤ 64) :
    Calls Try.prog 26 #[x.agg] w fun o w' => ∃ s : Sl, o = .returned (.slice s.a s.n s.c) ∧ IntsIn .u32 w'.heap.size w' s (addrsTo x.evs) ∧ Below w.heap.size w w' := by
  obtain ⟨⟨ea, en, ec⟩, ⟨fa, fn, fc⟩, ⟨oa, on, oc⟩, evs, from_, order⟩ := x
  obtain ⟨e1, esm, hev, ecl⟩ := hx
  dsimp only at e1 esm hev ecl hlen
  subst e1
  unfold Ex.agg
  dsimp only
  have hmm := @run_makeMap Try.prog
  have KS := Lib.hid (fun mb w => callsIn_wide.1 (keys_u Fence.wide (fun _ => trivial) 0 rfl mb w))
  go_enter Try.func26, Try.ntmps26
  go_upto_region 1 with (fail)
  refine alloc_opaque (X := fun W => Code.wp _ _ _ _ W) ?_
  intro wc hb hsz hcs
  have c0 : wc.cell? ⟨w.heap.size, 0, none⟩ = some (.slice ea evs.length ec) := hcs 0 _ rfl
  clear hcs
  have HEV := Lib.hid hev
  have HCL := Lib.hid ecl
  clear hev ecl
  go_wp2
  go_loopw [10] (fun i wr => ∃ (k nn : Nat) (D : DataW Unit), k ≤ evs.length ∧ i = .int .i64 k ∧ nn ≤ k ∧ wr.ownsMap Try.prog 42 (plainElem Try.prog 3) wc.heap.size nn D ∧ Has D (addrsTo (evs.take k)) ∧ Below wc.heap.size wc wr) (fun i _ => evs.length - (intOf i).toNat)
  case atStart => exact ⟨0, 0, .map [], by omega, rfl, by omega, World.ownsMap_made _ _ _ _, fun y => by simp [addrsTo, Maps.has], (Below.refl _ _).alloc (Nat.le_refl _) _⟩
  case round =>
    obtain ⟨k, nn, D, hk, rfl, hnn, hown, hD, hbr⟩ := hrel
    have c0r : wr.cell? ⟨w.heap.size, 0, none⟩ = some (.slice ea evs.length ec) := (hbr.cell (p := ⟨w.heap.size, 0, none⟩) hsz).trans c0
    have HD := Lib.hid hD
    clear hD hmm
    by_cases hlt : k < evs.length
    · obtain ⟨b, off, rfl, hbB, hcl⟩ := HCL.out.resolve_left (by intro h; rw [h] at hlt; simp at hlt)
      obtain ⟨E, hE⟩ : ∃ E, evs.getD k default = E := ⟨_, rfl⟩
      have hmem : E ∈ evs := by rw [← hE, List.getD_eq_getElem?_getD, List.getElem?_eq_getElem hlt]; exact List.getElem_mem hlt
      have hwf := (HEV.out E hmem).2.2.2
      have hcE := ((hcl k hlt).below hb hbB).below hbr (show b < wc.heap.size by omega)
      rw [hE] at hcE
      unfold EvCells at hcE
      obtain ⟨q0, q1, q2, q3, q4, q5, q6, q7, q8, q9, q10, q11, q12⟩ := hcE
      have HT : Hid (addrsTo (evs.take (k + 1)) = if E.kind = 4 then addrsTo (evs.take k) else addIn E.addr (addrsTo (evs.take k))) := Lib.hid (by
        rw [← addrsTo_snoc, List.take_succ_eq_append_getElem hlt, ← hE]; simp [List.getD, hlt])
      have hkey : keyOf Try.prog 42 (.int .u32 E.addr) = some (.int .u32 E.addr) := keyOf_int_mk Try.underlying42 (u32_wf hwf.2.2.1.1 hwf.2.2.1.2)
      clear hE hmem hwf hcl
      go_upto_region 5 with (fail)
      refine alloc_opaque (X := fun W => Code.wp _ _ _ _ W) ?_
      intro w1 hb1 hs1 hcs1
      have t0 : (w1).cell? ⟨wr.heap.size, 0, none⟩ = some (Value.int IntKind.i64 E.hart) := hcs1 0 _ rfl
      have t1 : (w1).cell? ⟨wr.heap.size, 1, none⟩ = some (Value.int IntKind.i64 E.kind) := hcs1 1 _ rfl
      have t2 : (w1).cell? ⟨wr.heap.size, 2, none⟩ = some (Value.int IntKind.u32 E.addr) := hcs1 2 _ rfl
      have t3 : (w1).cell? ⟨wr.heap.size, 3, none⟩ = some (Value.int IntKind.u32 E.val) := hcs1 3 _ rfl
      have t4 : (w1).cell? ⟨wr.heap.size, 4, none⟩ = some (Value.int IntKind.u32 E.rval) := hcs1 4 _ rfl
      have t5 : (w1).cell? ⟨wr.heap.size, 5, none⟩ = some (Value.bool E.aq) := hcs1 5 _ rfl
      have t6 : (w1).cell? ⟨wr.heap.size, 6, none⟩ = some (Value.bool E.rl) := hcs1 6 _ rfl
      have t7 : (w1).cell? ⟨wr.heap.size, 7, none⟩ = some (Value.int IntKind.i64 E.pred) := hcs1 7 _ rfl
      have t8 : (w1).cell? ⟨wr.heap.size, 8, none⟩ = some (Value.int IntKind.i64 E.succ) := hcs1 8 _ rfl
      have t9 : (w1).cell? ⟨wr.heap.size, 9, none⟩ = some (Value.bool E.rsv) := hcs1 9 _ rfl
      have t10 : (w1).cell? ⟨wr.heap.size, 10, none⟩ = some (Value.slice E.av.a E.av.n E.av.c) := hcs1 10 _ rfl
      have t11 : (w1).cell? ⟨wr.heap.size, 11, none⟩ = some (Value.slice E.dv.a E.dv.n E.dv.c) := hcs1 11 _ rfl
      have t12 : (w1).cell? ⟨wr.heap.size, 12, none⟩ = some (Value.slice E.cv.a E.cv.n E.cv.c) := hcs1 12 _ rfl
      clear hcs1 q0 q1 q2 q3 q4 q5 q6 q7 q8 q9 q10 q11 q12
      have hz1 := hbr.size
      have own1 : w1.ownsMap Try.prog 42 (plainElem Try.prog 3) wc.heap.size nn D := ownsMap_below hown hb1 hown.lt
      have hb2 : Below wc.heap.size wc w1 := hbr.trans (hb1.mono hz1)
      have OW := Lib.hid hown
      clear hown
      by_cases hf : (E.kind != 4) = true
      · have hne : E.kind ≠ 4 := by simpa using hf
        go_wp2_with (first
          | (at_lookup; refine wpList_lookup_own_int _ rfl _ _ 68 rfl 42 3 .i64 lawU Try.underlying68 Try.underlying3 (zeroI _) wc.heap.size nn _ rfl own1 _ _ rfl hkey ?_; intro c hat hwc)
          | (at_mapUpdate; refine wpList_mapUpdate_own _ rfl _ _ _ 68 rfl 42 3 lawU Try.underlying68 _ wc.heap.size nn _ rfl own1 (by unfold maxLen; omega) _ _ _ rfl rfl hkey _ [] (plainElem_int Try.underlying3 (wrap64_wf _)) ?_; intro w2 hown2 hgrow2)
          | go_in)
        go_roundw
        case rel => exact ⟨k + 1, nn + 1, _, by omega, by go_num, by omega, hown2, by rw [HT.out, if_neg hne]; exact HD.out.put own1.isMap _ _, hb2.grown hgrow2 hb2.size (fun j hj => by cases hj; exact Nat.le_refl _)⟩
        case measure => simp [intOf]; omega
      · have hf2 : (E.kind != 4) = false := by simpa using hf
        have he4 : E.kind = 4 := by simpa using hf2
        clear hf
        go_wp2
        go_roundw
        case rel => exact ⟨k + 1, nn, D, by omega, by go_num, by omega, own1, by rw [HT.out, if_pos he4]; exact HD.out, hb2⟩
        case measure => simp [intOf]; omega
    · have hk2 : k = evs.length := by omega
      have HL : Hid (addrsTo (evs.take k) = addrsTo evs) := Lib.hid (by rw [hk2, List.take_length])
      have hnotlt : ¬ k < evs.length := hlt
      have own1 : (wr.alloc (.cells #[.map (some wc.heap.size)] 68)).ownsMap Try.prog 42 (plainElem Try.prog 3) wc.heap.size nn D := hown.alloc _
      have ctr : Hid (Calls Try.prog 47 #[.func (.func 58) #[] #[.pointer (some ⟨wr.heap.size, 0, none⟩)]] (wr.alloc (.cells #[.map (some wc.heap.size)] 68)) fun e w' =>
          ∃ v, e = .returned v ∧ w'.ownsRow (wr.alloc (.cells #[.map (some wc.heap.size)] 68)).heap.size 42 1 v (addrsTo evs).length ((addrsTo evs).map (Value.int .u32)) ∧ (v = .slice none 0 0 ↔ addrsTo evs = []) ∧ Below (wr.alloc (.cells #[.map (some wc.heap.size)] 68)).heap.size (wr.alloc (.cells #[.map (some wc.heap.size)] 68)) w') := Lib.hid (sortedKeys_c hs wc.heap.size nn D (addrsTo evs) _ own1 (by rw [← HL.out]; exact HD.out) (addrsTo_rising evs) (by omega) wr.heap.size (by simp) (by simp))
      clear own1 hs
      go_wp2_with (first
        | (go_at_call 48; refine (KS.out _ _).mono ?_; rintro e w' ⟨rfl, rfl⟩)
        | (go_at_call 47; refine ctr.out.mono ?_; rintro e w5 ⟨v, rfl, hrow, hnil, hb5⟩))
      go_ret
      obtain ⟨s, hv, hi⟩ := row_ints .u32 (by have := addrsTo_len evs; omega) hrow
      refine ⟨s, by rw [hv]; rfl, hi, ?_⟩
      have hb6 : Below wr.heap.size wr w5 := ((Below.refl wr.heap.size wr).alloc (Nat.le_refl _) _).trans (hb5.mono (by simp))
      exact hb.trans ((hbr.trans (hb6.mono hbr.size)).mono (by omega))
end Go.Proofs.Ytgeaaegkcbjhlaa
