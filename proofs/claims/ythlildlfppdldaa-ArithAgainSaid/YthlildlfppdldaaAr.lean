/- Contracts of the reference of layer 1: what each call returns, said in the same words as the program's. -/
import Derived.Test.YthlildlfppdldaaAw2
namespace Go.Proofs.Ythlildlfppdldaa
open Go.RowKit Am

theorem rsign_c (a : Int) (h0 : 0 ≤ a) (h1 : a < 4294967296) (w : World) :
    Calls Try.prog 26 #[.int .u32 a] w fun e w' => e = .returned (.int .i64 (sg a)) ∧ w = w' := by
  by_cases h : a < 2147483648
  · have E : Hid (sg a = a) := Lib.hid (if_pos h)
    go_enter Try.func26, Try.ntmps26
    go_wp2
    go_ret
    exact ⟨ret_int E.out.symm, rfl⟩
  · have E : Hid (sg a = a - 4294967296) := Lib.hid (if_neg h)
    go_enter Try.func26, Try.ntmps26
    go_wp2
    go_ret
    exact ⟨ret_int E.out.symm, rfl⟩

theorem tmod_word (x : Int) : 0 ≤ x.tmod 4294967296 → x.tmod 4294967296 = x % 4294967296 := by
  intro h
  have e : x.tmod 4294967296 = x % 4294967296 - if 0 ≤ x ∨ (4294967296 : Int) ∣ x then 0 else Int.natAbs 4294967296 := Int.tmod_eq_emod
  by_cases hc : 0 ≤ x ∨ (4294967296 : Int) ∣ x
  · rw [if_pos hc] at e; omega
  · rw [if_neg hc] at e; omega
theorem tmod_word' (x : Int) : x.tmod 4294967296 < 0 → x.tmod 4294967296 + 4294967296 = x % 4294967296 := by
  intro h
  have e : x.tmod 4294967296 = x % 4294967296 - if 0 ≤ x ∨ (4294967296 : Int) ∣ x then 0 else Int.natAbs 4294967296 := Int.tmod_eq_emod
  by_cases hc : 0 ≤ x ∨ (4294967296 : Int) ∣ x
  · rw [if_pos hc] at e; omega
  · rw [if_neg hc] at e; omega
theorem tmod_rng (x : Int) : -4294967296 < x.tmod 4294967296 ∧ x.tmod 4294967296 < 4294967296 := by
  have h := Int.natAbs_tmod x 4294967296
  have h2 : x.natAbs % (4294967296 : Int).natAbs < 4294967296 := Nat.mod_lt _ (by decide)
  rw [← h] at h2; omega

theorem word_c (x : Int) (w : World) :
    Calls Try.prog 48 #[.int .i64 x] w fun e w' => e = .returned (.int .u32 (x % 4294967296)) ∧ w = w' := by
  have r := tmod_rng x
  by_cases h : x.tmod 4294967296 < 0
  · have E := Lib.hid (tmod_word' x h)
    go_enter Try.func48, Try.ntmps48
    go_wp2
    go_ret
    exact ⟨ret_int (by rw [E.out]), rfl⟩
  · have E := Lib.hid (tmod_word x (by omega))
    go_enter Try.func48, Try.ntmps48
    go_wp2
    go_ret
    exact ⟨ret_int (by rw [E.out]), rfl⟩

theorem radd_c (a b : Int) (g0 : 0 ≤ a) (g1 : a < 4294967296) (h0 : 0 ≤ b) (h1 : b < 4294967296) (w : World) :
    Calls Try.prog 28 #[.int .u32 a, .int .u32 b] w fun e w' => e = .returned (.int .u32 ((a + b) % 4294967296)) ∧ w = w' := by
  go_enter Try.func28, Try.ntmps28
  go_wp2_with (go_at_call 48; refine (word_c _ _).mono ?_; rintro e w' ⟨rfl, rfl⟩)
  go_ret
  exact ⟨rfl, rfl⟩
theorem rsub_c (a b : Int) (g0 : 0 ≤ a) (g1 : a < 4294967296) (h0 : 0 ≤ b) (h1 : b < 4294967296) (w : World) :
    Calls Try.prog 30 #[.int .u32 a, .int .u32 b] w fun e w' => e = .returned (.int .u32 ((a - b) % 4294967296)) ∧ w = w' := by
  go_enter Try.func30, Try.ntmps30
  go_wp2_with (go_at_call 48; refine (word_c _ _).mono ?_; rintro e w' ⟨rfl, rfl⟩)
  go_ret
  exact ⟨rfl, rfl⟩
theorem rmul_c (a b : Int) (g0 : 0 ≤ a) (g1 : a < 4294967296) (h0 : 0 ≤ b) (h1 : b < 4294967296) (w : World) :
    Calls Try.prog 32 #[.int .u32 a, .int .u32 b] w fun e w' => e = .returned (.int .u32 ((a * b) % 4294967296)) ∧ Grown w w' := by
  have E : Hid ((a * (b % 65536) + a * (b / 65536) % 65536 * 65536) % 4294967296 = a * b % 4294967296) := Lib.hid (by rw [← mul_halves a b]; omega)
  have m1 := mul_bd a (b % 65536) 4294967295 65535 (by omega) (by omega)
  have m2 := mul_bd a (b / 65536) 4294967295 65535 (by omega) (by omega)
  have p1 : a * (b % 65536) ≤ 281470681677825 := by omega
  have p2 : a * (b / 65536) ≤ 281470681677825 := by omega
  have p3 := mul_nn a (b % 65536) (by omega) (by omega)
  have p4 := mul_nn a (b / 65536) (by omega) (by omega)
  clear m1 m2
  go_enter Try.func32, Try.ntmps32
  go_wp2_with (go_at_call 48; refine (word_c _ _).mono ?_; rintro e w' ⟨rfl, rfl⟩)
  go_ret
  exact ⟨ret_int E.out, Grown.refl _⟩
/-- cut towards nought, and rounded down -/
theorem tfloor (x p : Int) (hp : 0 < p) : ((0 ≤ x ∨ x.tdiv p * p = x) → x.tdiv p = x / p) ∧ (¬ 0 ≤ x → x.tdiv p * p ≠ x → x.tdiv p - 1 = x / p) := by
  have h : x.tdiv p = x / p + if 0 ≤ x ∨ p ∣ x then 0 else Int.sign p := Int.tdiv_eq_ediv
  have s1 : Int.sign p = 1 := Int.sign_eq_one_of_pos hp
  rw [s1] at h
  constructor
  · rintro (h0 | h0)
    · rw [h, if_pos (Or.inl h0)]; omega
    · rw [h, if_pos (Or.inr ⟨x.tdiv p, by rw [Int.mul_comm]; exact h0.symm⟩)]; omega
  · intro h0 h1
    by_cases hd : p ∣ x
    · exact absurd (Int.tdiv_mul_cancel hd) h1
    · rw [h, if_neg (by simp [h0, hd])]; omega
theorem tmul_bd (x p : Int) (A : Nat) (h : -(A : Int) ≤ x ∧ x ≤ A) : -(A : Int) ≤ x.tdiv p * p ∧ x.tdiv p * p ≤ A := by
  have h2 : (x.tdiv p * p).natAbs ≤ x.natAbs := by
    rw [Int.natAbs_mul, Int.natAbs_tdiv]; exact Nat.div_mul_le_self _ _
  omega
theorem rdown_c (x : Int) (h0 : -9223372036854775807 ≤ x) (h1 : x ≤ 9223372036854775807) (w : World) :
    Calls Try.prog 54 #[.int .i64 x] w fun e w' => e = .returned (.int .i64 (x / 4294967296)) ∧ w = w' := by
  have T := tfloor x 4294967296 (by decide)
  have b := tdiv_bd x 4294967296 9223372036854775807 (by omega)
  have b2 := tmul_bd x 4294967296 9223372036854775807 (by omega)
  have b3 : -9223372036854775807 ≤ x.tdiv 4294967296 := by omega
  have b4 : x.tdiv 4294967296 * 4294967296 ≤ 9223372036854775807 := by omega
  have b5 : -9223372036854775807 ≤ x.tdiv 4294967296 * 4294967296 := by omega
  clear b b2
  by_cases h : x < 0
  · by_cases hq : x.tdiv 4294967296 * 4294967296 = x
    · have hq' : (x.tdiv 4294967296 * 4294967296 != x) = false := by simpa using hq
      have E := Lib.hid (T.1 (Or.inr hq))
      clear T hq
      go_enter Try.func54, Try.ntmps54
      go_wp2
      go_ret
      exact ⟨ret_int E.out, rfl⟩
    · have hq' : (x.tdiv 4294967296 * 4294967296 != x) = true := by simpa using hq
      have E := Lib.hid (T.2 (by omega) hq)
      clear T hq
      go_enter Try.func54, Try.ntmps54
      go_wp2
      go_ret
      exact ⟨ret_int E.out, rfl⟩
  · have E := Lib.hid (T.1 (Or.inl (by omega)))
    clear T
    go_enter Try.func54, Try.ntmps54
    go_wp2
    go_ret
    exact ⟨ret_int E.out, rfl⟩

theorem rmulh_c (a b : Int) (g0 : 0 ≤ a) (g1 : a < 4294967296) (h0 : 0 ≤ b) (h1 : b < 4294967296) (w : World) :
    Calls Try.prog 35 #[.int .u32 a, .int .u32 b] w fun e w' => e = .returned (.int .u32 (sg a * sg b / 4294967296 % 4294967296)) ∧ w = w' := by
  have b1 := sg_bd a g0 g1
  have b2 := sg_bd b h0 h1
  have m := mul_bd (sg a) (sg b) 2147483648 2147483648 (by omega) (by omega)
  have m1 : -9223372036854775807 ≤ sg a * sg b := by omega
  have m2 : sg a * sg b ≤ 9223372036854775807 := by omega
  clear m
  go_enter Try.func35, Try.ntmps35
  go_wp2_with (first | (go_at_call 26; refine (rsign_c _ (by assumption) (by assumption) _).mono ?_; rintro e w' ⟨rfl, rfl⟩) | (go_at_call 54; refine (rdown_c _ (by assumption) (by assumption) _).mono ?_; rintro e w' ⟨rfl, rfl⟩) | (go_at_call 48; refine (word_c _ _).mono ?_; rintro e w' ⟨rfl, rfl⟩))
  go_ret
  exact ⟨rfl, rfl⟩
theorem rmulhsu_c (a b : Int) (g0 : 0 ≤ a) (g1 : a < 4294967296) (h0 : 0 ≤ b) (h1 : b < 4294967296) (w : World) :
    Calls Try.prog 38 #[.int .u32 a, .int .u32 b] w fun e w' => e = .returned (.int .u32 (sg a * b / 4294967296 % 4294967296)) ∧ w = w' := by
  have b1 := sg_bd a g0 g1
  have m := mul_bd (sg a) b 2147483648 4294967295 (by omega) (by omega)
  have m1 : -9223372036854775807 ≤ sg a * b := by omega
  have m2 : sg a * b ≤ 9223372036854775807 := by omega
  clear m
  go_enter Try.func38, Try.ntmps38
  go_wp2_with (first | (go_at_call 26; refine (rsign_c _ (by assumption) (by assumption) _).mono ?_; rintro e w' ⟨rfl, rfl⟩) | (go_at_call 54; refine (rdown_c _ (by assumption) (by assumption) _).mono ?_; rintro e w' ⟨rfl, rfl⟩) | (go_at_call 48; refine (word_c _ _).mono ?_; rintro e w' ⟨rfl, rfl⟩))
  go_ret
  exact ⟨rfl, rfl⟩
theorem rmulhu_c (a b : Int) (g0 : 0 ≤ a) (g1 : a < 4294967296) (h0 : 0 ≤ b) (h1 : b < 4294967296) (w : World) :
    Calls Try.prog 36 #[.int .u32 a, .int .u32 b] w fun e w' => e = .returned (.int .u32 (a * b / 4294967296 % 4294967296)) ∧ Grown w w' := by
  have U := Lib.hid (mul_upper a b g0 g1 h0 h1)
  have a1 : 0 ≤ a / 65536 ∧ a / 65536 ≤ 65535 := by omega
  have a2 : 0 ≤ a % 65536 ∧ a % 65536 ≤ 65535 := by omega
  have b1 : 0 ≤ b / 65536 ∧ b / 65536 ≤ 65535 := by omega
  have b2 : 0 ≤ b % 65536 ∧ b % 65536 ≤ 65535 := by omega
  have m1 := mul_bd (a / 65536) (b / 65536) 65535 65535 (by omega) (by omega)
  have m2 := mul_bd (a / 65536) (b % 65536) 65535 65535 (by omega) (by omega)
  have m3 := mul_bd (a % 65536) (b / 65536) 65535 65535 (by omega) (by omega)
  have m4 := mul_bd (a % 65536) (b % 65536) 65535 65535 (by omega) (by omega)
  have n1 := mul_nn (a / 65536) (b / 65536) (by omega) (by omega)
  have n2 := mul_nn (a / 65536) (b % 65536) (by omega) (by omega)
  have n3 := mul_nn (a % 65536) (b / 65536) (by omega) (by omega)
  have n4 := mul_nn (a % 65536) (b % 65536) (by omega) (by omega)
  have p1 : a / 65536 * (b / 65536) ≤ 4294836225 := by omega
  have p2 : a / 65536 * (b % 65536) ≤ 4294836225 := by omega
  have p3 : a % 65536 * (b / 65536) ≤ 4294836225 := by omega
  have p4 : a % 65536 * (b % 65536) ≤ 4294836225 := by omega
  clear m1 m2 m3 m4
  go_enter Try.func36, Try.ntmps36
  go_wp2_with (go_at_call 48; refine (word_c _ _).mono ?_; rintro e w' ⟨rfl, rfl⟩)
  go_ret
  exact ⟨ret_int U.out, Grown.refl _⟩
end Go.Proofs.Ythlildlfppdldaa
