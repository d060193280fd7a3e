/- The reference's circle: the walk. -/
import Derived.Test.YtgeaaegkcbjhlaaPz
import Derived.Deep.OwnRows
namespace Go.Proofs.Ytgeaaegkcbjhlaa
open Go.RowKit

set_option maxHeartbeats 1000000 in
theorem keep_c (s : Sl) (ok : Bool) (w : World) : Calls Try.prog 15 #[.slice s.a s.n s.c, .bool ok] w fun o w' => o = .returned (if ok then .slice s.a s.n s.c else .slice none 0 0) ∧ w' = w := by
  cases ok with
  | true =>
    go_enter Try.func15, Try.ntmps15
    go_wp2
    go_ret
    exact ⟨rfl, rfl⟩
  | false =>
    go_enter Try.func15, Try.ntmps15
    go_wp2
    go_ret
    exact ⟨rfl, rfl⟩


theorem info_b : (Try.prog.info? 4).map (fun i => (i.zero, i.size, i.bytes)) = some (some (.bool false), 1, 1) := by kernel_rfl
def ledTo (l : List (Int × Int)) (g : Gone) (p k : Nat) : Bool := ledB (l.take k) g p
theorem ledTo_succ (l : List (Int × Int)) (g : Gone) (p : Nat) {k : Nat} (hk : k < l.length) : ledTo l g p (k + 1) = (ledTo l g p k || ((l.getD k (0, 0)).2 == (p : Int) && !g (l.getD k (0, 0)).1.toNat)) := by
  unfold ledTo ledB
  rw [List.take_succ_eq_append_getElem hk, List.any_append, List.getD_eq_getElem?_getD, List.getElem?_eq_getElem hk]
  simp
theorem ledTo_len (l : List (Int × Int)) (g : Gone) (p : Nat) : ledTo l g p l.length = ledB l g p := by unfold ledTo; rw [List.take_length]
def goneTo (l : List (Int × Int)) (n k : Nat) : Bool := (List.range k).all (fun p => roundsTo l n n p)
theorem goneTo_succ (l : List (Int × Int)) (n k : Nat) : goneTo l n (k + 1) = (goneTo l n k && roundsTo l n n k) := by simp [goneTo, List.range_succ]
theorem goneTo_len (l : List (Int × Int)) (n : Nat) : circleB n l = !goneTo l n n := by
  unfold circleB goneTo
  rw [List.not_all_eq_any_not]
theorem goneTo_false (l : List (Int × Int)) (n k : Nat) (hk : k < n) (h : roundsTo l n n k = false) : circleB n l = true := by
  unfold circleB
  rw [List.any_eq_true]
  exact ⟨k, by simpa using hk, by rw [h]; rfl⟩
def gv (g : Gone) : Nat → Value := fun i => .bool (g i)

set_option maxRecDepth 100000 in
set_option maxHeartbeats 2000000 in
theorem circle_c (n : Nat) (s : Sl) (l : List (Int × Int)) (w : World) (hl : PairsZ w.heap.size w s l) (hn : n ≤ 64) (hok : l.any (outB n) = false) (hlen : l.length ≤ 4096) :
    Calls Try.prog 14 #[.int .i64 (n : Int), .slice s.a s.n s.c] w fun e w' => e = .returned (.bool (circleB n l)) ∧ Below w.heap.size w w' := by
  obtain ⟨res, hres⟩ : ∃ z : Bool, circleB n l = z := ⟨_, rfl⟩
  rw [hres]
  have RES := Lib.hid hres
  clear hres
  have hmk := run_make_row' (P := Try.prog) 60 4 (.bool false) 1 Try.underlying60 info_b rfl .i64 .i64 n (by omega) (by omega)
  obtain ⟨sa, sn, sc⟩ := s
  obtain ⟨hsn, hls, hrow⟩ := hl
  dsimp only at hsn hrow
  subst hsn
  have HROW := Lib.hid hrow
  have HOK := Lib.hid hok
  clear hrow hok
  go_enter Try.func14, Try.ntmps14
  go_wp2
  go_loopw [6] (fun i wr => ∃ r : Nat, r ≤ n ∧ i = .int .i64 r ∧ wr.rowIs w.heap.size 4 n (gv (roundsTo l n r)) ∧ Below w.heap.size w wr) (fun i _ => n - (intOf i).toNat)
  case atStart => exact ⟨0, by omega, rfl, World.rowIs_made _ _ _ _, (Below.refl _ _).alloc (Nat.le_refl _) _⟩
  case round =>
    obtain ⟨r, hr, rfl, hg, hb⟩ := hrel
    rename World => wo
    clear hmk
    by_cases hlt : r < n
    · have HG := Lib.hid hg
      clear hg
      go_wp2
      go_loopw [7] (fun j wr => ∃ p : Nat, p ≤ n ∧ j = .int .i64 p ∧ wr.rowIs w.heap.size 4 n (gv (passTo l (roundsTo l n r) p)) ∧ Below w.heap.size w wr) (fun j _ => n - (intOf j).toNat)
      case atStart => exact ⟨0, by omega, rfl, HG.out, hb⟩
      case round =>
        obtain ⟨p, hp, rfl, hg2, hb2⟩ := hrel
        rename World => wp
        obtain ⟨g, hgE⟩ : ∃ g, passTo l (roundsTo l n r) p = g := ⟨_, rfl⟩
        rw [hgE] at hg2
        have HGE := Lib.hid hgE
        have HG2 := Lib.hid hg2
        clear hgE hg2 hb HG
        by_cases hlp : p < n
        · go_wp2
          go_loop [8, 9] (fun ld i => ∃ k : Nat, k ≤ l.length ∧ i = .int .i64 k ∧ ld = .bool (ledTo l g p k)) (fun _ i => l.length - (intOf i).toNat)
          case atStart => exact ⟨0, by omega, rfl, rfl⟩
          case round =>
            obtain ⟨k, hk, rfl, rfl⟩ := hrel
            obtain ⟨ld, hld⟩ : ∃ z : Bool, ledTo l g p k = z := ⟨_, rfl⟩
            rw [hld]
            have HLD := Lib.hid hld
            clear hld
            by_cases hlk : k < l.length
            · obtain ⟨b, off, rfl, hbB, hcl⟩ := HROW.out.resolve_left (by intro h; rw [h] at hlk; simp at hlk)
              obtain ⟨⟨pa, pb⟩, hq⟩ : ∃ p, l.getD k (0, 0) = p := ⟨_, rfl⟩
              have cc := hcl k hlk
              rw [hq] at cc
              dsimp only at cc
              have q0 : wp.cell? ⟨b, off + k * 2, none⟩ = some (.int .i64 pa) := by rw [hb2.cell (p := ⟨b, off + k * 2, none⟩) hbB]; exact cc.1
              have q1 : wp.cell? ⟨b, off + k * 2 + 1, none⟩ = some (.int .i64 pb) := by rw [hb2.cell (p := ⟨b, off + k * 2 + 1, none⟩) hbB]; exact cc.2
              have hin : 0 ≤ pa ∧ pa < n := by
                have hx : outB n (pa, pb) = false := by
                  have := HOK.out
                  rw [List.any_eq_false] at this
                  have h2 := this (pa, pb) (by rw [← hq, List.getD_eq_getElem?_getD, List.getElem?_eq_getElem hlk]; exact List.getElem_mem hlk)
                  simpa using h2
                unfold outB at hx
                simp only [Bool.or_eq_false_iff, decide_eq_false_iff_not] at hx
                omega
              obtain ⟨a, rfl⟩ : ∃ a : Nat, pa = a := ⟨pa.toNat, by omega⟩
              have hla : a < n := by omega
              obtain ⟨ga, hga⟩ : ∃ z : Bool, g a = z := ⟨_, rfl⟩
              have q2 : wp.cell? ⟨w.heap.size, a, none⟩ = some (.bool ga) := by rw [← hga]; exact HG2.out.cell hla
              obtain ⟨eb, heb⟩ : ∃ x : Bool, (pb == (p : Int)) = x := ⟨_, rfl⟩
              have HS : Hid (ledTo l g p (k + 1) = (ld || (eb && !ga))) := Lib.hid (by rw [ledTo_succ l g p hlk, HLD.out, hq, Int.toNat_natCast, hga, heb])
              clear hcl cc hq hga
              cases ld <;> cases eb <;> cases ga
              all_goals
                go_wp2
                go_round
                case rel => exact ⟨k + 1, by omega, by go_num, by rw [HS.out]; rfl⟩
                case measure => simp [intOf]; omega
            · have hke : k = l.length := by omega
              have HL : Hid (ledB l g p = ld) := Lib.hid (by rw [← ledTo_len, ← hke]; exact HLD.out)
              clear hke
              cases ld with
              | true =>
                go_wp2
                go_roundw
                case rel => exact ⟨p + 1, by omega, by go_num, by rw [passTo_succ, HGE.out]; unfold takeP; rw [HL.out]; exact HG2.out, hb2⟩
                case measure => simp [intOf]; omega
              | false =>
                have hf := HG2.out.frozen p
                have hc := HG2.out.cell hlp
                have hlt2 := HG2.out.lt
                go_wp2
                go_roundw
                case rel =>
                  refine ⟨p + 1, by omega, by go_num, ?_, ?_⟩
                  · rw [passTo_succ, HGE.out]; unfold takeP; rw [HL.out]
                    refine (HG2.out.set p (.bool true)).congr (fun i _ => ?_)
                    show (if i = p then Value.bool true else .bool (g i)) = .bool (if i = p then true else g i)
                    split <;> rfl
                  · exact hb2.setCell (by simp) _
                case measure => simp [intOf]; omega
        · have hpe : p = n := by omega
          go_wp2
          go_roundw
          case rel => exact ⟨r + 1, by omega, by go_num, by (have := HG2.out); rw [← HGE.out, hpe] at this; exact this, hb2⟩
          case measure => simp [intOf]; omega
    · have hre : r = n := by omega
      have HG : Hid (wo.rowIs w.heap.size 4 n (gv (roundsTo l n n))) := Lib.hid (by rw [← hre]; rw [← hre] at hg; exact hg)
      clear hg
      go_wp2
      go_loop [10] (fun i => ∃ k : Nat, k ≤ n ∧ i = .int .i64 k ∧ goneTo l n k = true) (fun i => n - (intOf i).toNat)
      case atStart => exact ⟨0, by omega, rfl, rfl⟩
      case round =>
        obtain ⟨k, hk, rfl, hgt⟩ := hrel
        have HGT := Lib.hid hgt
        clear hgt
        by_cases hlk : k < n
        · obtain ⟨gk, hgk⟩ : ∃ z : Bool, roundsTo l n n k = z := ⟨_, rfl⟩
          have q2 : wo.cell? ⟨w.heap.size, k, none⟩ = some (.bool gk) := by rw [← hgk]; exact HG.out.cell hlk
          have HGK := Lib.hid hgk
          clear hgk
          cases gk with
          | true =>
            go_wp2
            go_round
            case rel => exact ⟨k + 1, by omega, by go_num, by rw [goneTo_succ, HGT.out, HGK.out]; rfl⟩
            case measure => simp [intOf]; omega
          | false =>
            go_wp2
            go_ret
            exact ⟨ret_bool (by rw [← RES.out, goneTo_false l n k hlk HGK.out]), hb⟩
        · have hke : k = n := by omega
          have F : Hid (res = false) := Lib.hid (by rw [← RES.out, goneTo_len, ← hke]; rw [← hke] at HGT; rw [HGT.out]; rfl)
          go_wp2
          go_ret
          exact ⟨ret_bool F.out.symm, hb⟩
end Go.Proofs.Ytgeaaegkcbjhlaa
