/- Parts. -/
import Derived.Test.YtjogffchdejabaaGreatDoorPt3
import Derived.Test.YtjogffchdejabaaGreatDoorPt4
import Derived.Test.YtjogffchdejabaaGreatDoorPt8
set_option linter.unusedVariables false
set_option linter.unusedSimpArgs false
set_option maxHeartbeats 4000000
set_option maxRecDepth 100000
namespace Go.Proofs.YtjogffchdejabaaGreatDoor
open Go.RowKit Go.Lib
set_option maxHeartbeats 1000000 in
theorem wU (n a b : Int) : Pure E.P 50 [.int .i64 n, .int .i64 a, .int .i64 b] (.bool (inR n a b)) := by
 refine fnA Tryz.func50 Tryz.ntmps50 ?_
 refine run ?_; refine aoR fun _ => ?_
 refine run ?_; refine aoR fun _ => ?_
 refine run ?_; rotate_left
 all_goals exact uQ rfl rfl
set_option maxHeartbeats 1000000 in
theorem fV (s : Stp) : Pure E.P 51 [stOV s] (.bool s.acc) := by
 have f1 : Frozen 1 := ⟨trivial⟩
 have c1 := wU s.kind 1 4
 refine fnA Tryz.func51 Tryz.ntmps51 ?_
 refine run ?_; refine aoR fun _ => ?_
 refine run ?_; refine aoR fun _ => ?_
 refine run ?_
 apply uD; exact rfl; exact .fn _ _ _; exact rfl; exact c1
 refine run ?_; rotate_left
 all_goals exact uQ rfl rfl
set_option maxHeartbeats 1000000 in
theorem zK (s : Stp) : Pure E.P 70 [stOV s] (.bool s.sts) := by
 have f1 : Frozen 1 := ⟨trivial⟩
 have c1 := wU s.kind 2 4
 refine fnA Tryz.func70 Tryz.ntmps70 ?_
 refine run ?_; refine aoR fun _ => ?_
 refine run ?_; refine aoR fun _ => ?_
 refine run ?_
 apply uD; exact rfl; exact .fn _ _ _; exact rfl; exact c1
 refine run ?_; rotate_left
 all_goals (refine uQ rfl ?_; unfold Stp.sts Stp.acc inR; rw [Bool.eq_iff_iff]; simp; omega)
set_option maxHeartbeats 1000000 in
theorem aW (s : Stp) : Pure E.P 69 [stOV s] (.bool s.lds) := by
 have f1 : Frozen 1 := ⟨trivial⟩
 have c1 := fV s
 refine fnA Tryz.func69 Tryz.ntmps69 ?_
 refine run ?_; refine aoR fun _ => ?_
 refine run ?_; refine aoR fun _ => ?_
 refine run ?_
 apply uD; exact rfl; exact .fn _ _ _; exact rfl; exact c1
 refine run ?_; rotate_left
 all_goals exact uQ rfl rfl
def ItoaP : Prop := ∀ n : Nat, n < 100 → Pure E.P 136 [.int .i64 n] (.bs (decDigits n))
def FmtP : Prop := ∀ n : Int, 0 ≤ n → n ≤ 18446744073709551615 → Pure E.P 127 [.int .u64 n, .int .i64 10] (.bs (decDigits n.toNat))
set_option maxHeartbeats 1000000 in
theorem yY (hI : ItoaP) {n : Int} (h : 1 ≤ n ∧ n ≤ 4) : Pure E.P 71 [.int .i64 n] (.bs (regW n)) := by
 rcases four h with rfl | rfl | rfl | rfl
 ·have c := hI 1 (by decide)
  rw [decDigits_one (by decide)] at c
  refine fnA Tryz.func71 Tryz.ntmps71 ?_
  refine run ?_; refine aoR fun _ => ?_
  refine run ?_; refine aoR fun _ => ?_
  refine run ?_
  apply uD; exact rfl; exact .fn _ _ _; exact rfl; exact c
  apply uJ; exact rfl; exact rfl; (((simp only [List.length_append, List.length_cons, List.length_nil]); omega))
  refine run ?_; rotate_left
  all_goals exact uK rfl rfl
 ·have c := hI 2 (by decide)
  rw [decDigits_one (by decide)] at c
  refine fnA Tryz.func71 Tryz.ntmps71 ?_
  refine run ?_; refine aoR fun _ => ?_
  refine run ?_; refine aoR fun _ => ?_
  refine run ?_
  apply uD; exact rfl; exact .fn _ _ _; exact rfl; exact c
  apply uJ; exact rfl; exact rfl; (((simp only [List.length_append, List.length_cons, List.length_nil]); omega))
  refine run ?_; rotate_left
  all_goals exact uK rfl rfl
 ·have c := hI 3 (by decide)
  rw [decDigits_one (by decide)] at c
  refine fnA Tryz.func71 Tryz.ntmps71 ?_
  refine run ?_; refine aoR fun _ => ?_
  refine run ?_; refine aoR fun _ => ?_
  refine run ?_
  apply uD; exact rfl; exact .fn _ _ _; exact rfl; exact c
  apply uJ; exact rfl; exact rfl; (((simp only [List.length_append, List.length_cons, List.length_nil]); omega))
  refine run ?_; rotate_left
  all_goals exact uK rfl rfl
 ·have c := hI 4 (by decide)
  rw [decDigits_one (by decide)] at c
  refine fnA Tryz.func71 Tryz.ntmps71 ?_
  refine run ?_; refine aoR fun _ => ?_
  refine run ?_; refine aoR fun _ => ?_
  refine run ?_
  apply uD; exact rfl; exact .fn _ _ _; exact rfl; exact c
  apply uJ; exact rfl; exact rfl; (((simp only [List.length_append, List.length_cons, List.length_nil]); omega))
  refine run ?_; rotate_left
  all_goals exact uK rfl rfl
set_option maxHeartbeats 1000000 in
theorem dH {n : Int} (h : 0 ≤ n ∧ n ≤ 3) : Pure E.P 72 [.int .i64 n] (.bs (nameW n)) := by
 rcases (by omega : n = 0 ∨ n = 1 ∨ n = 2 ∨ n = 3) with rfl | rfl | rfl | rfl
 ·refine fnA Tryz.func72 Tryz.ntmps72 ?_
  refine run ?_; refine aoR fun _ => ?_
  refine run ?_; refine aoR fun _ => ?_
  refine run ?_; rotate_left
  all_goals exact uK rfl rfl
 ·refine fnA Tryz.func72 Tryz.ntmps72 ?_
  refine run ?_; refine aoR fun _ => ?_
  refine run ?_; refine aoR fun _ => ?_
  refine run ?_; rotate_left
  all_goals exact uK rfl rfl
 ·refine fnA Tryz.func72 Tryz.ntmps72 ?_
  refine run ?_; refine aoR fun _ => ?_
  refine run ?_; refine aoR fun _ => ?_
  refine run ?_; rotate_left
  all_goals exact uK rfl rfl
 ·refine fnA Tryz.func72 Tryz.ntmps72 ?_
  refine run ?_; refine aoR fun _ => ?_
  refine run ?_; refine aoR fun _ => ?_
  refine run ?_; rotate_left
  all_goals exact uK rfl rfl
set_option maxHeartbeats 1000000 in
theorem mW {n : Int} (h : 0 ≤ n ∧ n ≤ 3) : Pure E.P 74 [.int .i64 n] (.bs (setW n)) := by
 rcases (by omega : n = 0 ∨ n = 1 ∨ n = 2 ∨ n = 3) with rfl | rfl | rfl | rfl
 ·refine fnA Tryz.func74 Tryz.ntmps74 ?_
  refine run ?_; refine aoR fun _ => ?_
  refine run ?_; refine aoR fun _ => ?_
  refine run ?_; rotate_left
  all_goals exact uK rfl rfl
 ·refine fnA Tryz.func74 Tryz.ntmps74 ?_
  refine run ?_; refine aoR fun _ => ?_
  refine run ?_; refine aoR fun _ => ?_
  refine run ?_; rotate_left
  all_goals exact uK rfl rfl
 ·refine fnA Tryz.func74 Tryz.ntmps74 ?_
  refine run ?_; refine aoR fun _ => ?_
  refine run ?_; refine aoR fun _ => ?_
  refine run ?_; rotate_left
  all_goals exact uK rfl rfl
 ·refine fnA Tryz.func74 Tryz.ntmps74 ?_
  refine run ?_; refine aoR fun _ => ?_
  refine run ?_; refine aoR fun _ => ?_
  refine run ?_; rotate_left
  all_goals exact uK rfl rfl
set_option maxHeartbeats 1000000 in
theorem dT (hI : ItoaP) (hF : FmtP) (s : Stp) (hd : 0 ≤ s.data ∧ s.data ≤ 4) (hn : s.n32) : Pure E.P 73 [stOV s] (.bs (valW s.data s.num)) := by
 have f1 : Frozen 1 := ⟨trivial⟩
 obtain ⟨n0, n1⟩ := hn
 by_cases h0 : 0 < s.data
 ·have c := yY hI (n := s.data) ⟨by omega, hd.2⟩
  rw [bF _ h0]
  refine fnA Tryz.func73 Tryz.ntmps73 ?_
  refine run ?_; refine aoR fun _ => ?_
  refine run ?_; refine aoR fun _ => ?_
  refine run ?_; refine cnd ?_ ?_
  refine uB fun _ => ?_; try omega
  refine run ?_; refine aoR fun _ => ?_
  refine run ?_
  apply uD; exact rfl; exact .fn _ _ _; exact rfl; exact c
  refine run ?_; rotate_left
  refine uC fun _ => ?_; try omega
  all_goals first | exact uK rfl rfl | (exfalso; omega)
 ·have h1 : s.data = 0 := by omega
  have c := hF s.num n0 (by omega)
  rw [h1, valW_dec]
  refine fnA Tryz.func73 Tryz.ntmps73 ?_
  refine run ?_; refine aoR fun _ => ?_
  refine run ?_; refine aoR fun _ => ?_
  refine run ?_; refine cnd ?_ ?_
  refine uB fun _ => ?_; try omega
  refine uC fun _ => ?_; try omega
  refine run ?_; refine aoR fun _ => ?_
  refine run ?_
  apply mN; exact rfl; exact rfl; exact rfl; exact rfl; exact rfl; omega
  apply uD; exact rfl; exact .fn _ _ _; exact rfl; exact c
  refine run ?_; rotate_left
  all_goals first | exact uK rfl rfl | (exfalso; omega)
def stT (k r v n d b : Int) (a l : Bool) (p q : Int) : List TV := [.c (.int .i64 k), .c (.int .i64 r), .c (.int .i64 v), .c (.int .u32 n), .c (.int .i64 d), .c (.int .i64 b), .c (.bool a), .c (.bool l), .c (.int .i64 p), .c (.int .i64 q)]
theorem yH {tm : Tm} {σ : Store} {t : Nat} {x y : Bt} (h : tm t = some (.bs x)) (e : x = y) : Done t (fun r' _ => r' = .bs y) .ret tm σ := uK h (by rw [e])
set_option maxHeartbeats 4000000 in
theorem rline1_p (hI : ItoaP) (r v b : Int) (a l : Bool) (h1 : 1 ≤ r ∧ r ≤ 4) (h2 : 0 ≤ v ∧ v ≤ 3) (h3 : 0 ≤ b ∧ b ≤ 4) : Pure E.P 34 [.ag ((stT 1 r v 0 0 b a l 0 0).map .d)] (.bs (regW r ++ [32, 61, 32] ++ nameW v ++ sufB b a l)) := by
 have f1 : Frozen 1 := ⟨trivial⟩
 have lr := vH b
 have lg := vH r
 have lm := wB v
 have c1 := yY hI h1
 have c2 := dH h2
 refine fnA Tryz.func34 Tryz.ntmps34 ?_
 refine uU (X := Unit) (fun _ => tmL [(1, .d (.pt (stT 1 r v 0 0 b a l 0 0) 0))]) (fun _ => stL []) ?_ fun _ => ?_
 ·refine aoR fun _ => ?_
  refine run ?_; rotate_left
  exact wT () leP leP
 refine uU (X := Unit) (fun _ => tmL [(1, .d (.pt (stT 1 r v 0 0 b a l 0 0) 0)), (3, .bs [])]) (fun _ => stL []) ?_ fun _ => ?_
 ·refine aoR fun _ => ?_
  refine run ?_; rotate_left
  exact wT () leP leP
 refine uU (X := Unit) (fun _ => tmL [(1, .d (.pt (stT 1 r v 0 0 b a l 0 0) 0)), (3, .bs (regW r ++ [32, 61, 32] ++ nameW v))]) (fun _ => stL []) ?_ fun _ => ?_
 ·refine run ?_
  refine aoR fun _ => ?_; refine run ?_
  refine aoR fun _ => ?_; refine run ?_
  refine cnd ?_ ?_
  refine uB fun _ => ?_; try omega
  refine uF (E := E) ?_ (fun _ => ?_); exact rfl
  refine run ?_
  apply vK; exact rfl; exact .fn _ _ _; exact rfl; (exact c1)
  apply uM; exact rfl; exact rfl; (((simp only [List.length_append, List.length_cons, List.length_nil]); omega))
  refine run ?_
  apply vK; exact rfl; exact .fn _ _ _; exact rfl; (exact c2)
  apply uM; exact rfl; exact rfl; (((simp only [List.length_append, List.length_cons, List.length_nil]); omega))
  refine run ?_; rotate_left
  refine uC fun _ => ?_; try omega
  all_goals exact wT () leP leP
 generalize hb : regW r ++ [32, 61, 32] ++ nameW v = base
 have hbl : base.length ≤ 60 := by rw [← hb]; simp only [List.length_append, List.length_cons, List.length_nil]; omega
 by_cases h0 : 0 < b
 ·have c1 := yY hI (n := b) ⟨by omega, h3.2⟩
  refine run ?_; refine aoR fun _ => ?_
  refine run ?_; refine cnd ?_ ?_
  refine uB fun _ => ?_; try omega
  refine aoR fun _ => ?_; refine run ?_
  apply uJ; exact rfl; exact rfl; (((simp only [List.length_append, List.length_cons, List.length_nil]); omega))
  refine run ?_
  apply uD; exact rfl; exact .fn _ _ _; exact rfl; exact c1
  apply uJ; exact rfl; exact rfl; (((simp only [List.length_append, List.length_cons, List.length_nil]); omega))
  refine run ?_; refine aoR fun _ => ?_
  refine run ?_; refine cnd ?_ ?_
  refine vQ (fun _ => ?_)
  refine aoR fun _ => ?_; refine run ?_
  apply uJ; exact rfl; exact rfl; (((simp only [List.length_append, List.length_cons, List.length_nil]); omega))
  refine run ?_; refine aoR fun _ => ?_
  refine run ?_; refine cnd ?_ ?_
  refine vQ (fun _ => ?_)
  refine aoR fun _ => ?_; refine run ?_
  apply uJ; exact rfl; exact rfl; (((simp only [List.length_append, List.length_cons, List.length_nil]); omega))
  refine run ?_; refine aoR fun _ => ?_
  refine run ?_; rotate_left
  refine vS (fun _ => ?_)
  refine run ?_; refine aoR fun _ => ?_
  refine run ?_; rotate_left
  refine vS (fun _ => ?_)
  refine run ?_; refine aoR fun _ => ?_
  refine run ?_; refine cnd ?_ ?_
  refine vQ (fun _ => ?_)
  refine aoR fun _ => ?_; refine run ?_
  apply uJ; exact rfl; exact rfl; (((simp only [List.length_append, List.length_cons, List.length_nil]); omega))
  refine run ?_; refine aoR fun _ => ?_
  refine run ?_; rotate_left
  refine vS (fun _ => ?_)
  refine run ?_; refine aoR fun _ => ?_
  refine run ?_; rotate_left
  refine uC fun _ => ?_; try omega
  all_goals first | (exfalso; omega) | (refine yH rfl ?_; simp [sufB, h0, *])
 ·refine run ?_
  refine aoR fun _ => ?_; refine run ?_
  refine cnd ?_ ?_
  refine uB fun _ => ?_; try omega
  refine uC fun _ => ?_; try omega
  refine run ?_; refine aoR fun _ => ?_
  refine run ?_; refine cnd ?_ ?_
  refine vQ (fun _ => ?_)
  refine aoR fun _ => ?_; refine run ?_
  apply uJ; exact rfl; exact rfl; (((simp only [List.length_append, List.length_cons, List.length_nil]); omega))
  refine run ?_; refine aoR fun _ => ?_
  refine run ?_; refine cnd ?_ ?_
  refine vQ (fun _ => ?_)
  refine aoR fun _ => ?_; refine run ?_
  apply uJ; exact rfl; exact rfl; (((simp only [List.length_append, List.length_cons, List.length_nil]); omega))
  refine run ?_; refine aoR fun _ => ?_
  refine run ?_; rotate_left
  refine vS (fun _ => ?_)
  refine run ?_; refine aoR fun _ => ?_
  refine run ?_; rotate_left
  refine vS (fun _ => ?_)
  refine run ?_; refine aoR fun _ => ?_
  refine run ?_; refine cnd ?_ ?_
  refine vQ (fun _ => ?_)
  refine aoR fun _ => ?_; refine run ?_
  apply uJ; exact rfl; exact rfl; (((simp only [List.length_append, List.length_cons, List.length_nil]); omega))
  refine run ?_; refine aoR fun _ => ?_
  refine run ?_; rotate_left
  refine vS (fun _ => ?_)
  refine run ?_; refine aoR fun _ => ?_
  refine run ?_; rotate_left
  all_goals first | (exfalso; omega) | (refine yH rfl ?_; simp [sufB, h0, *])
set_option maxHeartbeats 4000000 in
theorem rline2_p (hI : ItoaP) (hF : FmtP) (v n d b : Int) (a l : Bool) (h2 : 0 ≤ v ∧ v ≤ 3) (h3 : 0 ≤ b ∧ b ≤ 4) (h4 : 0 ≤ d ∧ d ≤ 4) (hn : 0 ≤ n ∧ n ≤ 4294967295) : Pure E.P 34 [.ag ((stT 2 0 v n d b a l 0 0).map .d)] (.bs (nameW v ++ [32, 61, 32] ++ valW d n ++ sufB b a l)) := by
 have f1 : Frozen 1 := ⟨trivial⟩
 have lr := vH b
 have lm := wB v
 have lv := xE (d := d) hn
 have c1 := dT hI hF ⟨2, 0, v, n, d, b, a, l, 0, 0⟩ h4 hn
 have c2 := dH h2
 refine fnA Tryz.func34 Tryz.ntmps34 ?_
 refine uU (X := Unit) (fun _ => tmL [(1, .d (.pt (stT 2 0 v n d b a l 0 0) 0))]) (fun _ => stL []) ?_ fun _ => ?_
 ·refine aoR fun _ => ?_
  refine run ?_; rotate_left
  exact wT () leP leP
 refine uU (X := Unit) (fun _ => tmL [(1, .d (.pt (stT 2 0 v n d b a l 0 0) 0)), (3, .bs [])]) (fun _ => stL []) ?_ fun _ => ?_
 ·refine aoR fun _ => ?_
  refine run ?_; rotate_left
  exact wT () leP leP
 refine uU (X := Unit) (fun _ => tmL [(1, .d (.pt (stT 2 0 v n d b a l 0 0) 0)), (3, .bs (nameW v ++ [32, 61, 32] ++ valW d n))]) (fun _ => stL []) ?_ fun _ => ?_
 ·refine run ?_
  refine aoR fun _ => ?_; refine run ?_
  refine aoR fun _ => ?_; refine run ?_
  refine cnd ?_ ?_
  refine uB fun _ => ?_; try omega
  refine uC fun _ => ?_; try omega
  refine run ?_; refine aoR fun _ => ?_
  refine run ?_; refine cnd ?_ ?_
  refine uB fun _ => ?_; try omega
  refine uF (E := E) ?_ (fun _ => ?_); exact rfl
  refine run ?_
  apply vK; exact rfl; exact .fn _ _ _; exact rfl; (exact c2)
  apply uM; exact rfl; exact rfl; (((simp only [List.length_append, List.length_cons, List.length_nil]); omega))
  refine run ?_
  apply vK; exact rfl; exact .fn _ _ _; exact rfl; (exact c1)
  apply uM; exact rfl; exact rfl; (((simp only [List.length_append, List.length_cons, List.length_nil]); omega))
  refine run ?_; rotate_left
  refine uC fun _ => ?_; try omega
  all_goals exact wT () leP leP
 generalize hb : nameW v ++ [32, 61, 32] ++ valW d n = base
 have hbl : base.length ≤ 60 := by rw [← hb]; simp only [List.length_append, List.length_cons, List.length_nil]; omega
 by_cases h0 : 0 < b
 ·have c1 := yY hI (n := b) ⟨by omega, h3.2⟩
  refine run ?_; refine aoR fun _ => ?_
  refine run ?_; refine cnd ?_ ?_
  refine uB fun _ => ?_; try omega
  refine aoR fun _ => ?_; refine run ?_
  apply uJ; exact rfl; exact rfl; (((simp only [List.length_append, List.length_cons, List.length_nil]); omega))
  refine run ?_
  apply uD; exact rfl; exact .fn _ _ _; exact rfl; exact c1
  apply uJ; exact rfl; exact rfl; (((simp only [List.length_append, List.length_cons, List.length_nil]); omega))
  refine run ?_; refine aoR fun _ => ?_
  refine run ?_; refine cnd ?_ ?_
  refine vQ (fun _ => ?_)
  refine aoR fun _ => ?_; refine run ?_
  apply uJ; exact rfl; exact rfl; (((simp only [List.length_append, List.length_cons, List.length_nil]); omega))
  refine run ?_; refine aoR fun _ => ?_
  refine run ?_; refine cnd ?_ ?_
  refine vQ (fun _ => ?_)
  refine aoR fun _ => ?_; refine run ?_
  apply uJ; exact rfl; exact rfl; (((simp only [List.length_append, List.length_cons, List.length_nil]); omega))
  refine run ?_; refine aoR fun _ => ?_
  refine run ?_; rotate_left
  refine vS (fun _ => ?_)
  refine run ?_; refine aoR fun _ => ?_
  refine run ?_; rotate_left
  refine vS (fun _ => ?_)
  refine run ?_; refine aoR fun _ => ?_
  refine run ?_; refine cnd ?_ ?_
  refine vQ (fun _ => ?_)
  refine aoR fun _ => ?_; refine run ?_
  apply uJ; exact rfl; exact rfl; (((simp only [List.length_append, List.length_cons, List.length_nil]); omega))
  refine run ?_; refine aoR fun _ => ?_
  refine run ?_; rotate_left
  refine vS (fun _ => ?_)
  refine run ?_; refine aoR fun _ => ?_
  refine run ?_; rotate_left
  refine uC fun _ => ?_; try omega
  all_goals first | (exfalso; omega) | (refine yH rfl ?_; simp [sufB, h0, *])
 ·refine run ?_
  refine aoR fun _ => ?_; refine run ?_
  refine cnd ?_ ?_
  refine uB fun _ => ?_; try omega
  refine uC fun _ => ?_; try omega
  refine run ?_; refine aoR fun _ => ?_
  refine run ?_; refine cnd ?_ ?_
  refine vQ (fun _ => ?_)
  refine aoR fun _ => ?_; refine run ?_
  apply uJ; exact rfl; exact rfl; (((simp only [List.length_append, List.length_cons, List.length_nil]); omega))
  refine run ?_; refine aoR fun _ => ?_
  refine run ?_; refine cnd ?_ ?_
  refine vQ (fun _ => ?_)
  refine aoR fun _ => ?_; refine run ?_
  apply uJ; exact rfl; exact rfl; (((simp only [List.length_append, List.length_cons, List.length_nil]); omega))
  refine run ?_; refine aoR fun _ => ?_
  refine run ?_; rotate_left
  refine vS (fun _ => ?_)
  refine run ?_; refine aoR fun _ => ?_
  refine run ?_; rotate_left
  refine vS (fun _ => ?_)
  refine run ?_; refine aoR fun _ => ?_
  refine run ?_; refine cnd ?_ ?_
  refine vQ (fun _ => ?_)
  refine aoR fun _ => ?_; refine run ?_
  apply uJ; exact rfl; exact rfl; (((simp only [List.length_append, List.length_cons, List.length_nil]); omega))
  refine run ?_; refine aoR fun _ => ?_
  refine run ?_; rotate_left
  refine vS (fun _ => ?_)
  refine run ?_; refine aoR fun _ => ?_
  refine run ?_; rotate_left
  all_goals first | (exfalso; omega) | (refine yH rfl ?_; simp [sufB, h0, *])
set_option maxHeartbeats 4000000 in
theorem rline3_p (hI : ItoaP) (hF : FmtP) (r v n d b : Int) (a l : Bool) (h1 : 1 ≤ r ∧ r ≤ 4) (h2 : 0 ≤ v ∧ v ≤ 3) (h3 : 0 ≤ b ∧ b ≤ 4) (h4 : 0 ≤ d ∧ d ≤ 4) (hn : 0 ≤ n ∧ n ≤ 4294967295) : Pure E.P 34 [.ag ((stT 3 r v n d b a l 0 0).map .d)] (.bs (regW r ++ [32, 61, 32, 115, 119, 97, 112, 32] ++ nameW v ++ [32] ++ valW d n ++ sufB b a l)) := by
 have f1 : Frozen 1 := ⟨trivial⟩
 have lr := vH b
 have lg := vH r
 have lm := wB v
 have lv := xE (d := d) hn
 have c1 := dT hI hF ⟨3, r, v, n, d, b, a, l, 0, 0⟩ h4 hn
 have c2 := dH h2
 have c3 := yY hI h1
 refine fnA Tryz.func34 Tryz.ntmps34 ?_
 refine uU (X := Unit) (fun _ => tmL [(1, .d (.pt (stT 3 r v n d b a l 0 0) 0))]) (fun _ => stL []) ?_ fun _ => ?_
 ·refine aoR fun _ => ?_
  refine run ?_; rotate_left
  exact wT () leP leP
 refine uU (X := Unit) (fun _ => tmL [(1, .d (.pt (stT 3 r v n d b a l 0 0) 0)), (3, .bs [])]) (fun _ => stL []) ?_ fun _ => ?_
 ·refine aoR fun _ => ?_
  refine run ?_; rotate_left
  exact wT () leP leP
 refine uU (X := Unit) (fun _ => tmL [(1, .d (.pt (stT 3 r v n d b a l 0 0) 0)), (3, .bs (regW r ++ [32, 61, 32, 115, 119, 97, 112, 32] ++ nameW v ++ [32] ++ valW d n))]) (fun _ => stL []) ?_ fun _ => ?_
 ·refine run ?_
  refine aoR fun _ => ?_; refine run ?_
  refine aoR fun _ => ?_; refine run ?_
  refine cnd ?_ ?_
  refine uB fun _ => ?_; try omega
  refine uC fun _ => ?_; try omega
  refine run ?_; refine aoR fun _ => ?_
  refine run ?_; refine cnd ?_ ?_
  refine uB fun _ => ?_; try omega
  refine uC fun _ => ?_; try omega
  refine run ?_; refine aoR fun _ => ?_
  refine run ?_; refine cnd ?_ ?_
  refine uB fun _ => ?_; try omega
  refine uF (E := E) ?_ (fun _ => ?_); exact rfl
  refine run ?_
  apply vK; exact rfl; exact .fn _ _ _; exact rfl; (exact c3)
  apply uM; exact rfl; exact rfl; (((simp only [List.length_append, List.length_cons, List.length_nil]); omega))
  refine run ?_
  apply vK; exact rfl; exact .fn _ _ _; exact rfl; (exact c2)
  iterate 2 (apply uM; exact rfl; exact rfl; (((simp only [List.length_append, List.length_cons, List.length_nil]); omega)))
  refine run ?_
  apply vK; exact rfl; exact .fn _ _ _; exact rfl; (exact c1)
  apply uM; exact rfl; exact rfl; (((simp only [List.length_append, List.length_cons, List.length_nil]); omega))
  refine run ?_; rotate_left
  refine uC fun _ => ?_; try omega
  all_goals exact wT () leP leP
 generalize hb : regW r ++ [32, 61, 32, 115, 119, 97, 112, 32] ++ nameW v ++ [32] ++ valW d n = base
 have hbl : base.length ≤ 60 := by rw [← hb]; simp only [List.length_append, List.length_cons, List.length_nil]; omega
 by_cases h0 : 0 < b
 ·have c1 := yY hI (n := b) ⟨by omega, h3.2⟩
  refine run ?_; refine aoR fun _ => ?_
  refine run ?_; refine cnd ?_ ?_
  refine uB fun _ => ?_; try omega
  refine aoR fun _ => ?_; refine run ?_
  apply uJ; exact rfl; exact rfl; (((simp only [List.length_append, List.length_cons, List.length_nil]); omega))
  refine run ?_
  apply uD; exact rfl; exact .fn _ _ _; exact rfl; exact c1
  apply uJ; exact rfl; exact rfl; (((simp only [List.length_append, List.length_cons, List.length_nil]); omega))
  refine run ?_; refine aoR fun _ => ?_
  refine run ?_; refine cnd ?_ ?_
  refine vQ (fun _ => ?_)
  refine aoR fun _ => ?_; refine run ?_
  apply uJ; exact rfl; exact rfl; (((simp only [List.length_append, List.length_cons, List.length_nil]); omega))
  refine run ?_; refine aoR fun _ => ?_
  refine run ?_; refine cnd ?_ ?_
  refine vQ (fun _ => ?_)
  refine aoR fun _ => ?_; refine run ?_
  apply uJ; exact rfl; exact rfl; (((simp only [List.length_append, List.length_cons, List.length_nil]); omega))
  refine run ?_; refine aoR fun _ => ?_
  refine run ?_; rotate_left
  refine vS (fun _ => ?_)
  refine run ?_; refine aoR fun _ => ?_
  refine run ?_; rotate_left
  refine vS (fun _ => ?_)
  refine run ?_; refine aoR fun _ => ?_
  refine run ?_; refine cnd ?_ ?_
  refine vQ (fun _ => ?_)
  refine aoR fun _ => ?_; refine run ?_
  apply uJ; exact rfl; exact rfl; (((simp only [List.length_append, List.length_cons, List.length_nil]); omega))
  refine run ?_; refine aoR fun _ => ?_
  refine run ?_; rotate_left
  refine vS (fun _ => ?_)
  refine run ?_; refine aoR fun _ => ?_
  refine run ?_; rotate_left
  refine uC fun _ => ?_; try omega
  all_goals first | (exfalso; omega) | (refine yH rfl ?_; simp [sufB, h0, *])
 ·refine run ?_
  refine aoR fun _ => ?_; refine run ?_
  refine cnd ?_ ?_
  refine uB fun _ => ?_; try omega
  refine uC fun _ => ?_; try omega
  refine run ?_; refine aoR fun _ => ?_
  refine run ?_; refine cnd ?_ ?_
  refine vQ (fun _ => ?_)
  refine aoR fun _ => ?_; refine run ?_
  apply uJ; exact rfl; exact rfl; (((simp only [List.length_append, List.length_cons, List.length_nil]); omega))
  refine run ?_; refine aoR fun _ => ?_
  refine run ?_; refine cnd ?_ ?_
  refine vQ (fun _ => ?_)
  refine aoR fun _ => ?_; refine run ?_
  apply uJ; exact rfl; exact rfl; (((simp only [List.length_append, List.length_cons, List.length_nil]); omega))
  refine run ?_; refine aoR fun _ => ?_
  refine run ?_; rotate_left
  refine vS (fun _ => ?_)
  refine run ?_; refine aoR fun _ => ?_
  refine run ?_; rotate_left
  refine vS (fun _ => ?_)
  refine run ?_; refine aoR fun _ => ?_
  refine run ?_; refine cnd ?_ ?_
  refine vQ (fun _ => ?_)
  refine aoR fun _ => ?_; refine run ?_
  apply uJ; exact rfl; exact rfl; (((simp only [List.length_append, List.length_cons, List.length_nil]); omega))
  refine run ?_; refine aoR fun _ => ?_
  refine run ?_; rotate_left
  refine vS (fun _ => ?_)
  refine run ?_; refine aoR fun _ => ?_
  refine run ?_; rotate_left
  all_goals first | (exfalso; omega) | (refine yH rfl ?_; simp [sufB, h0, *])
set_option maxHeartbeats 4000000 in
theorem rline4_p (hI : ItoaP) (hF : FmtP) (r v n d b : Int) (a l : Bool) (h1 : 1 ≤ r ∧ r ≤ 4) (h2 : 0 ≤ v ∧ v ≤ 3) (h3 : 0 ≤ b ∧ b ≤ 4) (h4 : 0 ≤ d ∧ d ≤ 4) (hn : 0 ≤ n ∧ n ≤ 4294967295) : Pure E.P 34 [.ag ((stT 4 r v n d b a l 0 0).map .d)] (.bs (regW r ++ [32, 61, 32, 97, 100, 100, 32] ++ nameW v ++ [32] ++ valW d n ++ sufB b a l)) := by
 have f1 : Frozen 1 := ⟨trivial⟩
 have lr := vH b
 have lg := vH r
 have lm := wB v
 have lv := xE (d := d) hn
 have c1 := dT hI hF ⟨4, r, v, n, d, b, a, l, 0, 0⟩ h4 hn
 have c2 := dH h2
 have c3 := yY hI h1
 refine fnA Tryz.func34 Tryz.ntmps34 ?_
 refine uU (X := Unit) (fun _ => tmL [(1, .d (.pt (stT 4 r v n d b a l 0 0) 0))]) (fun _ => stL []) ?_ fun _ => ?_
 ·refine aoR fun _ => ?_
  refine run ?_; rotate_left
  exact wT () leP leP
 refine uU (X := Unit) (fun _ => tmL [(1, .d (.pt (stT 4 r v n d b a l 0 0) 0)), (3, .bs [])]) (fun _ => stL []) ?_ fun _ => ?_
 ·refine aoR fun _ => ?_
  refine run ?_; rotate_left
  exact wT () leP leP
 refine uU (X := Unit) (fun _ => tmL [(1, .d (.pt (stT 4 r v n d b a l 0 0) 0)), (3, .bs (regW r ++ [32, 61, 32, 97, 100, 100, 32] ++ nameW v ++ [32] ++ valW d n))]) (fun _ => stL []) ?_ fun _ => ?_
 ·refine run ?_
  refine aoR fun _ => ?_; refine run ?_
  refine aoR fun _ => ?_; refine run ?_
  refine cnd ?_ ?_
  refine uB fun _ => ?_; try omega
  refine uC fun _ => ?_; try omega
  refine run ?_; refine aoR fun _ => ?_
  refine run ?_; refine cnd ?_ ?_
  refine uB fun _ => ?_; try omega
  refine uC fun _ => ?_; try omega
  refine run ?_; refine aoR fun _ => ?_
  refine run ?_; refine cnd ?_ ?_
  refine uB fun _ => ?_; try omega
  refine uC fun _ => ?_; try omega
  refine run ?_; refine aoR fun _ => ?_
  refine run ?_; refine cnd ?_ ?_
  refine uB fun _ => ?_; try omega
  refine uF (E := E) ?_ (fun _ => ?_); exact rfl
  refine run ?_
  apply vK; exact rfl; exact .fn _ _ _; exact rfl; (exact c3)
  apply uM; exact rfl; exact rfl; (((simp only [List.length_append, List.length_cons, List.length_nil]); omega))
  refine run ?_
  apply vK; exact rfl; exact .fn _ _ _; exact rfl; (exact c2)
  iterate 2 (apply uM; exact rfl; exact rfl; (((simp only [List.length_append, List.length_cons, List.length_nil]); omega)))
  refine run ?_
  apply vK; exact rfl; exact .fn _ _ _; exact rfl; (exact c1)
  apply uM; exact rfl; exact rfl; (((simp only [List.length_append, List.length_cons, List.length_nil]); omega))
  refine run ?_; rotate_left
  refine uC fun _ => ?_; try omega
  all_goals exact wT () leP leP
 generalize hb : regW r ++ [32, 61, 32, 97, 100, 100, 32] ++ nameW v ++ [32] ++ valW d n = base
 have hbl : base.length ≤ 60 := by rw [← hb]; simp only [List.length_append, List.length_cons, List.length_nil]; omega
 by_cases h0 : 0 < b
 ·have c1 := yY hI (n := b) ⟨by omega, h3.2⟩
  refine run ?_; refine aoR fun _ => ?_
  refine run ?_; refine cnd ?_ ?_
  refine uB fun _ => ?_; try omega
  refine aoR fun _ => ?_; refine run ?_
  apply uJ; exact rfl; exact rfl; (((simp only [List.length_append, List.length_cons, List.length_nil]); omega))
  refine run ?_
  apply uD; exact rfl; exact .fn _ _ _; exact rfl; exact c1
  apply uJ; exact rfl; exact rfl; (((simp only [List.length_append, List.length_cons, List.length_nil]); omega))
  refine run ?_; refine aoR fun _ => ?_
  refine run ?_; refine cnd ?_ ?_
  refine vQ (fun _ => ?_)
  refine aoR fun _ => ?_; refine run ?_
  apply uJ; exact rfl; exact rfl; (((simp only [List.length_append, List.length_cons, List.length_nil]); omega))
  refine run ?_; refine aoR fun _ => ?_
  refine run ?_; refine cnd ?_ ?_
  refine vQ (fun _ => ?_)
  refine aoR fun _ => ?_; refine run ?_
  apply uJ; exact rfl; exact rfl; (((simp only [List.length_append, List.length_cons, List.length_nil]); omega))
  refine run ?_; refine aoR fun _ => ?_
  refine run ?_; rotate_left
  refine vS (fun _ => ?_)
  refine run ?_; refine aoR fun _ => ?_
  refine run ?_; rotate_left
  refine vS (fun _ => ?_)
  refine run ?_; refine aoR fun _ => ?_
  refine run ?_; refine cnd ?_ ?_
  refine vQ (fun _ => ?_)
  refine aoR fun _ => ?_; refine run ?_
  apply uJ; exact rfl; exact rfl; (((simp only [List.length_append, List.length_cons, List.length_nil]); omega))
  refine run ?_; refine aoR fun _ => ?_
  refine run ?_; rotate_left
  refine vS (fun _ => ?_)
  refine run ?_; refine aoR fun _ => ?_
  refine run ?_; rotate_left
  refine uC fun _ => ?_; try omega
  all_goals first | (exfalso; omega) | (refine yH rfl ?_; simp [sufB, h0, *])
 ·refine run ?_
  refine aoR fun _ => ?_; refine run ?_
  refine cnd ?_ ?_
  refine uB fun _ => ?_; try omega
  refine uC fun _ => ?_; try omega
  refine run ?_; refine aoR fun _ => ?_
  refine run ?_; refine cnd ?_ ?_
  refine vQ (fun _ => ?_)
  refine aoR fun _ => ?_; refine run ?_
  apply uJ; exact rfl; exact rfl; (((simp only [List.length_append, List.length_cons, List.length_nil]); omega))
  refine run ?_; refine aoR fun _ => ?_
  refine run ?_; refine cnd ?_ ?_
  refine vQ (fun _ => ?_)
  refine aoR fun _ => ?_; refine run ?_
  apply uJ; exact rfl; exact rfl; (((simp only [List.length_append, List.length_cons, List.length_nil]); omega))
  refine run ?_; refine aoR fun _ => ?_
  refine run ?_; rotate_left
  refine vS (fun _ => ?_)
  refine run ?_; refine aoR fun _ => ?_
  refine run ?_; rotate_left
  refine vS (fun _ => ?_)
  refine run ?_; refine aoR fun _ => ?_
  refine run ?_; refine cnd ?_ ?_
  refine vQ (fun _ => ?_)
  refine aoR fun _ => ?_; refine run ?_
  apply uJ; exact rfl; exact rfl; (((simp only [List.length_append, List.length_cons, List.length_nil]); omega))
  refine run ?_; refine aoR fun _ => ?_
  refine run ?_; rotate_left
  refine vS (fun _ => ?_)
  refine run ?_; refine aoR fun _ => ?_
  refine run ?_; rotate_left
  all_goals first | (exfalso; omega) | (refine yH rfl ?_; simp [sufB, h0, *])
set_option maxHeartbeats 4000000 in
theorem rline5_p (p q : Int) (hp : 1 ≤ p ∧ p ≤ 3) (hq : 1 ≤ q ∧ q ≤ 3) : Pure E.P 34 [.ag ((fenceTV p q).map .d)] (.bs ([102, 101, 110, 99, 101, 32] ++ setW p ++ [32] ++ setW q)) := by
 have f1 : Frozen 1 := ⟨trivial⟩
 have c1 := mW (n := p) ⟨by omega, hp.2⟩
 have c2 := mW (n := q) ⟨by omega, hq.2⟩
 have l1 := yL p
 have l2 := yL q
 refine fnA Tryz.func34 Tryz.ntmps34 ?_
 refine run ?_; refine aoR fun _ => ?_
 refine run ?_; refine aoR fun _ => ?_
 refine run ?_; refine aoR fun _ => ?_
 refine run ?_; refine aoR fun _ => ?_
 refine run ?_; refine cnd ?_ ?_
 refine uB fun _ => ?_; try omega
 refine uC fun _ => ?_; try omega
 refine run ?_; refine aoR fun _ => ?_
 refine run ?_; refine cnd ?_ ?_
 refine uB fun _ => ?_; try omega
 refine uC fun _ => ?_; try omega
 refine run ?_; refine aoR fun _ => ?_
 refine run ?_; refine cnd ?_ ?_
 refine uB fun _ => ?_; try omega
 refine uC fun _ => ?_; try omega
 refine run ?_; refine aoR fun _ => ?_
 refine run ?_; refine cnd ?_ ?_
 refine uB fun _ => ?_; try omega
 refine uC fun _ => ?_; try omega
 refine run ?_; refine aoR fun _ => ?_
 refine run ?_; refine cnd ?_ ?_
 refine uB fun _ => ?_; try omega
 refine run ?_
 refine uF (E := E) ?_ (fun _ => ?_); exact rfl
 refine run ?_
 apply vK; exact rfl; exact .fn _ _ _; exact rfl; (exact c1)
 iterate 2 (apply uM; exact rfl; exact rfl; (((simp only [List.length_append, List.length_cons, List.length_nil]); omega)))
 refine run ?_
 apply vK; exact rfl; exact .fn _ _ _; exact rfl; (exact c2)
 apply uM; exact rfl; exact rfl; (((simp only [List.length_append, List.length_cons, List.length_nil]); omega))
 refine run ?_; rotate_left
 refine uC fun _ => ?_; try omega
 all_goals exact uK rfl rfl
set_option maxHeartbeats 4000000 in
theorem rline6_p (hI : ItoaP) (n : Int) (h : 1 ≤ n ∧ n ≤ 4) : Pure E.P 34 [.ag ((stT 6 n 0 0 0 0 false false 0 0).map .d)] (.bs ([105, 102, 32] ++ regW n)) := by
 have f1 : Frozen 1 := ⟨trivial⟩
 have c1 := yY hI h
 have l1 := vH n
 refine fnA Tryz.func34 Tryz.ntmps34 ?_
 refine run ?_; refine aoR fun _ => ?_
 refine run ?_; refine aoR fun _ => ?_
 refine run ?_; refine aoR fun _ => ?_
 refine run ?_; refine aoR fun _ => ?_
 refine run ?_; refine cnd ?_ ?_
 refine uB fun _ => ?_; try omega
 refine uC fun _ => ?_; try omega
 refine run ?_; refine aoR fun _ => ?_
 refine run ?_; refine cnd ?_ ?_
 refine uB fun _ => ?_; try omega
 refine uC fun _ => ?_; try omega
 refine run ?_; refine aoR fun _ => ?_
 refine run ?_; refine cnd ?_ ?_
 refine uB fun _ => ?_; try omega
 refine uC fun _ => ?_; try omega
 refine run ?_; refine aoR fun _ => ?_
 refine run ?_; refine cnd ?_ ?_
 refine uB fun _ => ?_; try omega
 refine uC fun _ => ?_; try omega
 refine run ?_; refine aoR fun _ => ?_
 refine run ?_; refine cnd ?_ ?_
 refine uB fun _ => ?_; try omega
 refine uC fun _ => ?_; try omega
 refine run ?_; refine aoR fun _ => ?_
 refine run ?_
 apply uD; exact rfl; exact .fn _ _ _; exact rfl; exact c1
 apply uJ; exact rfl; exact rfl; (((simp only [List.length_append, List.length_cons, List.length_nil]); omega))
 refine run ?_; rotate_left
 all_goals exact uK rfl rfl
theorem rline_p (hI : ItoaP) (hF : FmtP) (s : Stp) (hr : s.right = true) (hn : s.n32) : Pure E.P 34 [stOV s] (.bs (lineB s)) := by
 rw [lU hr]
 cases zJ hr with
 | fence p q hp hq =>
  have := rline5_p p q hp hq
  rw [← List.append_nil ([102, 101, 110, 99, 101, 32] ++ setW p ++ [32] ++ setW q)] at this
  exact this
 | cond n h =>
  have := rline6_p hI n h
  rw [← List.append_nil ([105, 102, 32] ++ regW n)] at this
  exact this
 | load r v b a l h1 h2 h3 => exact rline1_p hI r v b a l h1 h2 h3
 | store v n d b a l h2 h3 h4 h5 => exact rline2_p hI hF v n d b a l h2 h3 h4 hn
 | both k r v n d b a l hk h1 h2 h3 h4 h5 =>
  rcases hk with rfl | rfl
  ·exact rline3_p hI hF r v n d b a l h1 h2 h3 h4 hn
  ·exact rline4_p hI hF r v n d b a l h1 h2 h3 h4 hn
end Go.Proofs.YtjogffchdejabaaGreatDoor
