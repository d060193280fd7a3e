/- Contracts of the upper halves, quotients and remainders of package arith. -/
import Derived.Test.YthlildlfppdldaaAw
import Derived.Lib.Hide
namespace Go.Proofs.Ythlildlfppdldaa
open Go.RowKit Am

theorem u64_of_i64 (x : Int) : IntKind.u64.wrap x = x % 18446744073709551616 := by simp [IntKind.wrap, IntKind.bits, IntKind.signed]

theorem index1 (x0 x1 : Value) (w : World) : (Instr.index 37 (.agg #[x0, x1]) (.int .i64 1)).run Try.prog w = .ok x1 w := by kernel_rfl

theorem mulhu_c (a b : Int) (g0 : 0 ≤ a) (g1 : a < 4294967296) (h0 : 0 ≤ b) (h1 : b < 4294967296) (w : World) :
    Calls Try.prog 33 #[.int .u32 a, .int .u32 b] w fun e w' => e = .returned (.int .u32 (a * b / 4294967296 % 4294967296)) ∧ Grown w w' := by
  have m := mul_bd a b 4294967295 4294967295 (by omega) (by omega)
  have m0 := mul_nn a b g0 h0
  have m1 : a * b ≤ 18446744073709551615 := by omega
  clear m
  have i1 := index1
  go_enter Try.func33, Try.ntmps33
  go_wp2_with (go_at_call 53; refine (halves_c _ _).mono ?_; rintro e w' ⟨rfl, hg⟩)
  go_ret
  exact ⟨rfl, hg⟩

theorem mulh_c (a b : Int) (g0 : 0 ≤ a) (g1 : a < 4294967296) (h0 : 0 ≤ b) (h1 : b < 4294967296) (w : World) :
    Calls Try.prog 34 #[.int .u32 a, .int .u32 b] w fun e w' => e = .returned (.int .u32 (sg a * sg b / 4294967296 % 4294967296)) ∧ Grown w w' := by
  have b1 := sg_bd a g0 g1
  have b2 := sg_bd b h0 h1
  have m := mul_bd (sg a) (sg b) 2147483648 2147483648 (by omega) (by omega)
  have m1 : -9223372036854775808 ≤ sg a * sg b := by omega
  have m2 : sg a * sg b ≤ 9223372036854775807 := by omega
  clear m
  have U := Lib.hid (u64_of_i64 (sg a * sg b))
  have i1 := index1
  go_enter Try.func34, Try.ntmps34
  go_wp2_with (first | (go_at_call 25; refine (sign_c _ (by assumption) (by assumption) _).mono ?_; rintro e w' ⟨rfl, rfl⟩) | (go_at_call 53; refine (halves_c _ _).mono ?_; rintro e w' ⟨rfl, hg⟩))
  go_ret
  exact ⟨ret_int (by rw [U.out]; exact upper_of _), hg⟩

theorem mulhsu_c (a b : Int) (g0 : 0 ≤ a) (g1 : a < 4294967296) (h0 : 0 ≤ b) (h1 : b < 4294967296) (w : World) :
    Calls Try.prog 37 #[.int .u32 a, .int .u32 b] w fun e w' => e = .returned (.int .u32 (sg a * b / 4294967296 % 4294967296)) ∧ Grown w w' := by
  have b1 := sg_bd a g0 g1
  have m := mul_bd (sg a) b 2147483648 4294967295 (by omega) (by omega)
  have m1 : -9223372036854775808 ≤ sg a * b := by omega
  have m2 : sg a * b ≤ 9223372036854775807 := by omega
  clear m
  have U := Lib.hid (u64_of_i64 (sg a * b))
  have i1 := index1
  go_enter Try.func37, Try.ntmps37
  go_wp2_with (first | (go_at_call 25; refine (sign_c _ (by assumption) (by assumption) _).mono ?_; rintro e w' ⟨rfl, rfl⟩) | (go_at_call 53; refine (halves_c _ _).mono ?_; rintro e w' ⟨rfl, hg⟩))
  go_ret
  exact ⟨ret_int (by rw [U.out]; exact upper_of _), hg⟩

theorem plain_c (a : Int) (h0 : 0 ≤ a) (h1 : a < 4294967296) (w : World) :
    Calls Try.prog 56 #[.int .u32 a] w fun e w' => e = .returned (.int .i64 a) ∧ w = w' := by
  go_enter Try.func56, Try.ntmps56
  go_wp2
  go_ret
  exact ⟨rfl, rfl⟩

theorem tdiv_bd (x y : Int) (A : Nat) (h : -(A : Int) ≤ x ∧ x ≤ A) : -(A : Int) ≤ x.tdiv y ∧ x.tdiv y ≤ A := by
  have h1 : (x.tdiv y).natAbs ≤ A := by
    rw [Int.natAbs_tdiv]; exact Nat.le_trans (Nat.div_le_self _ _) (by omega)
  omega

theorem grown_trans {a b c : World} (h1 : Grown a b) (h2 : Grown b c) : Grown a c :=
  ⟨World.keptBut_trans h1.1 h2.1, fun x => (h2.2.1 x).trans (h1.2.1 x), Nat.le_trans h1.2.2 h2.2.2⟩
theorem grown_drewN (w : World) (n : Nat) : Grown w (w.drewN n) := by
  induction n generalizing w with
  | zero => exact Grown.refl w
  | succ n ih => exact ih w

/-- of a divisor 0 -/
theorem divided0_c (a : Int) (f : FuncId) (w : World) :
    Calls Try.prog 55 #[.int .u32 a, .int .u32 0, .func (.func f) #[] #[]] w fun e w' => e = .returned (.tuple #[.int .u32 4294967295, .int .u32 a]) ∧ Grown w w' := by
  go_enter Try.func55, Try.ntmps55
  go_wp2
  go_ret2
  exact ⟨rfl, Grown.refl _⟩

theorem dividedS_c (a b : Int) (g0 : 0 ≤ a) (g1 : a < 4294967296) (h0 : 0 ≤ b) (h1 : b < 4294967296) (hb : b ≠ 0) (w : World) :
    Calls Try.prog 55 #[.int .u32 a, .int .u32 b, .func (.func 25) #[] #[]] w fun e w' => e = .returned (.tuple #[.int .u32 ((sg a).tdiv (sg b) % 4294967296), .int .u32 ((sg a).tmod (sg b) % 4294967296)]) ∧ Grown w w' := by
  have hb0 : (b == 0) = false := by simpa using hb
  have b1 := sg_bd a g0 g1
  have b2 := sg_bd b h0 h1
  have hs : ¬ (sg b = 0) := by unfold sg; split <;> omega
  have q0 := tdiv_bd (sg a) (sg b) 2147483648 (by omega)
  clear hb
  go_enter Try.func55, Try.ntmps55
  go_wp2_with (go_at_call 25; refine (sign_c _ (by assumption) (by assumption) _).mono ?_; rintro e w' ⟨rfl, rfl⟩)
  go_quiet (fail)
  go_wp2
  go_ret2
  exact ⟨rfl, grown_drewN _ _⟩

theorem dividedP_c (a b : Int) (g0 : 0 ≤ a) (g1 : a < 4294967296) (h0 : 0 ≤ b) (h1 : b < 4294967296) (hb : b ≠ 0) (w : World) :
    Calls Try.prog 55 #[.int .u32 a, .int .u32 b, .func (.func 56) #[] #[]] w fun e w' => e = .returned (.tuple #[.int .u32 (a / b % 4294967296), .int .u32 (a % b % 4294967296)]) ∧ Grown w w' := by
  have hb0 : (b == 0) = false := by simpa using hb
  have hb1 : 1 ≤ b := by omega
  have hs : ¬ (b = 0) := hb
  clear hb
  go_enter Try.func55, Try.ntmps55
  go_wp2_with (go_at_call 56; refine (plain_c _ (by assumption) (by assumption) _).mono ?_; rintro e w' ⟨rfl, rfl⟩)
  go_quiet (fail)
  go_wp2
  go_ret2
  exact ⟨rfl, grown_drewN _ _⟩

/-- the quotient with signs -/
def divS (a b : Int) : Int := if b = 0 then 4294967295 else (sg a).tdiv (sg b) % 4294967296
def remS (a b : Int) : Int := if b = 0 then a else (sg a).tmod (sg b) % 4294967296
def divP (a b : Int) : Int := if b = 0 then 4294967295 else a / b % 4294967296
def remP (a b : Int) : Int := if b = 0 then a else a % b % 4294967296

theorem div_c (a b : Int) (g0 : 0 ≤ a) (g1 : a < 4294967296) (h0 : 0 ≤ b) (h1 : b < 4294967296) (w : World) :
    Calls Try.prog 39 #[.int .u32 a, .int .u32 b] w fun e w' => e = .returned (.int .u32 (divS a b)) ∧ Grown w w' := by
  by_cases hb : b = 0
  · subst hb
    go_enter Try.func39, Try.ntmps39
    go_wp2_with (go_at_call 55; refine (divided0_c _ _ _).mono ?_; rintro e w' ⟨rfl, hg⟩)
    go_ret
    exact ⟨rfl, hg⟩
  · have e : divS a b = (sg a).tdiv (sg b) % 4294967296 := if_neg hb
    have E := Lib.hid e
    have HB := Lib.hid hb
    clear e hb
    go_enter Try.func39, Try.ntmps39
    go_wp2_with (go_at_call 55; refine (dividedS_c _ _ (by assumption) (by assumption) (by assumption) (by assumption) HB.out _).mono ?_; rintro e w' ⟨rfl, hg⟩)
    go_ret
    exact ⟨ret_int E.out.symm, hg⟩
theorem rem_c (a b : Int) (g0 : 0 ≤ a) (g1 : a < 4294967296) (h0 : 0 ≤ b) (h1 : b < 4294967296) (w : World) :
    Calls Try.prog 43 #[.int .u32 a, .int .u32 b] w fun e w' => e = .returned (.int .u32 (remS a b)) ∧ Grown w w' := by
  by_cases hb : b = 0
  · subst hb
    go_enter Try.func43, Try.ntmps43
    go_wp2_with (go_at_call 55; refine (divided0_c _ _ _).mono ?_; rintro e w' ⟨rfl, hg⟩)
    go_ret
    exact ⟨rfl, hg⟩
  · have e : remS a b = (sg a).tmod (sg b) % 4294967296 := if_neg hb
    have E := Lib.hid e
    have HB := Lib.hid hb
    clear e hb
    go_enter Try.func43, Try.ntmps43
    go_wp2_with (go_at_call 55; refine (dividedS_c _ _ (by assumption) (by assumption) (by assumption) (by assumption) HB.out _).mono ?_; rintro e w' ⟨rfl, hg⟩)
    go_ret
    exact ⟨ret_int E.out.symm, hg⟩
theorem divu_c (a b : Int) (g0 : 0 ≤ a) (g1 : a < 4294967296) (h0 : 0 ≤ b) (h1 : b < 4294967296) (w : World) :
    Calls Try.prog 41 #[.int .u32 a, .int .u32 b] w fun e w' => e = .returned (.int .u32 (divP a b)) ∧ Grown w w' := by
  by_cases hb : b = 0
  · subst hb
    go_enter Try.func41, Try.ntmps41
    go_wp2_with (go_at_call 55; refine (divided0_c _ _ _).mono ?_; rintro e w' ⟨rfl, hg⟩)
    go_ret
    exact ⟨rfl, hg⟩
  · have e : divP a b = a / b % 4294967296 := if_neg hb
    have E := Lib.hid e
    have HB := Lib.hid hb
    clear e hb
    go_enter Try.func41, Try.ntmps41
    go_wp2_with (go_at_call 55; refine (dividedP_c _ _ (by assumption) (by assumption) (by assumption) (by assumption) HB.out _).mono ?_; rintro e w' ⟨rfl, hg⟩)
    go_ret
    exact ⟨ret_int E.out.symm, hg⟩
theorem remu_c (a b : Int) (g0 : 0 ≤ a) (g1 : a < 4294967296) (h0 : 0 ≤ b) (h1 : b < 4294967296) (w : World) :
    Calls Try.prog 45 #[.int .u32 a, .int .u32 b] w fun e w' => e = .returned (.int .u32 (remP a b)) ∧ Grown w w' := by
  by_cases hb : b = 0
  · subst hb
    go_enter Try.func45, Try.ntmps45
    go_wp2_with (go_at_call 55; refine (divided0_c _ _ _).mono ?_; rintro e w' ⟨rfl, hg⟩)
    go_ret
    exact ⟨rfl, hg⟩
  · have e : remP a b = a % b % 4294967296 := if_neg hb
    have E := Lib.hid e
    have HB := Lib.hid hb
    clear e hb
    go_enter Try.func45, Try.ntmps45
    go_wp2_with (go_at_call 55; refine (dividedP_c _ _ (by assumption) (by assumption) (by assumption) (by assumption) HB.out _).mono ?_; rintro e w' ⟨rfl, hg⟩)
    go_ret
    exact ⟨ret_int E.out.symm, hg⟩

/-- the lowest bits with their sign -/
def extN (bits : Int) : Int := if bits < 1 ∨ 32 < bits then 0 else 32 - bits
theorem extend_c (n bits : Int) (h0 : -9223372036854775808 ≤ bits) (h1 : bits ≤ 9223372036854775807) (w : World) :
    Calls Try.prog 12 #[.int .u32 n, .int .i64 bits] w fun e w' => e = .returned (.int .u32 ((sg (n * 2 ^ (extN bits % 32).toNat % 4294967296) / 2 ^ (extN bits % 32).toNat) % 4294967296)) ∧ w = w' := by
  by_cases hb : bits < 1
  · have E : Hid (extN bits = 0) := Lib.hid (by unfold extN; rw [if_pos (Or.inl hb)])
    go_enter Try.func12, Try.ntmps12
    go_wp2_with (first | (go_at_call 15; refine (shl_c _ _ (by omega) (by omega) _).mono ?_; rintro e w' ⟨rfl, rfl⟩) | (go_at_call 19; refine (sar_c _ _ (by omega) (by omega) (by omega) (by omega) _).mono ?_; rintro e w' ⟨rfl, rfl⟩))
    go_ret
    exact ⟨ret_int (by rw [E.out]; simp), rfl⟩
  by_cases hc : 32 < bits
  · have E : Hid (extN bits = 0) := Lib.hid (by unfold extN; rw [if_pos (Or.inr hc)])
    go_enter Try.func12, Try.ntmps12
    go_wp2_with (first | (go_at_call 15; refine (shl_c _ _ (by omega) (by omega) _).mono ?_; rintro e w' ⟨rfl, rfl⟩) | (go_at_call 19; refine (sar_c _ _ (by omega) (by omega) (by omega) (by omega) _).mono ?_; rintro e w' ⟨rfl, rfl⟩))
    go_ret
    exact ⟨ret_int (by rw [E.out]; simp), rfl⟩
  · have E : Hid (extN bits = 32 - bits) := Lib.hid (by unfold extN; rw [if_neg (by omega)])
    go_enter Try.func12, Try.ntmps12
    go_wp2_with (first | (go_at_call 15; refine (shl_c _ _ (by omega) (by omega) _).mono ?_; rintro e w' ⟨rfl, rfl⟩) | (go_at_call 19; refine (sar_c _ _ (by omega) (by omega) (by omega) (by omega) _).mono ?_; rintro e w' ⟨rfl, rfl⟩))
    go_ret
    exact ⟨ret_int (by rw [E.out]; simp), rfl⟩

theorem works_c (w : World) : Calls Try.prog 14 #[] w fun e w' => e = .returned (.bool true) ∧ Grown w w' := by
  have h1 : divS 2147483648 4294967295 = 2147483648 := by decide
  have h2 : sg 2147483648 / 2 ^ ((33 : Int) % 32).toNat % 4294967296 = 3221225472 := by decide
  have h3 : (sg (255 * 2 ^ (extN 8 % 32).toNat % 4294967296) / 2 ^ (extN 8 % 32).toNat) % 4294967296 = 4294967295 := by decide
  have h4 : decide (sg 4294967295 < sg 0) = true := by decide
  go_enter Try.func14, Try.ntmps14
  go_wp2_with fail
  refine (add_c _ _ _).mono ?_; rintro e w' ⟨rfl, rfl⟩
  go_wp2_with fail
  refine (div_c _ _ (by omega) (by omega) (by omega) (by omega) _).mono ?_; rintro e w1 ⟨rfl, hg⟩
  rw [h1]
  go_wp2_with fail
  refine (sar_c _ _ (by omega) (by omega) (by omega) (by omega) _).mono ?_; rintro e w' ⟨rfl, rfl⟩
  rw [h2]
  go_wp2_with fail
  refine (extend_c _ _ (by omega) (by omega) _).mono ?_; rintro e w' ⟨rfl, rfl⟩
  rw [h3]
  go_wp2_with fail
  refine (less_c _ _ (by omega) (by omega) (by omega) (by omega) _).mono ?_; rintro e w' ⟨rfl, rfl⟩
  rw [h4]
  go_wp2
  go_ret
  exact ⟨rfl, hg⟩
end Go.Proofs.Ythlildlfppdldaa
