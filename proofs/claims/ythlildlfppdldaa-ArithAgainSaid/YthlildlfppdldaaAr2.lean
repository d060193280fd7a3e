/- Contracts of the reference of layer 1: quotients, powers, moves by bits, the lowest bits with their sign. -/
import Derived.Test.YthlildlfppdldaaAr
namespace Go.Proofs.Ythlildlfppdldaa
open Go.RowKit Am

theorem rless_c (a b : Int) (g0 : 0 ≤ a) (g1 : a < 4294967296) (h0 : 0 ≤ b) (h1 : b < 4294967296) (w : World) :
    Calls Try.prog 22 #[.int .u32 a, .int .u32 b] w fun e w' => e = .returned (.bool (decide (sg a < sg b))) ∧ w = w' := by
  go_enter Try.func22, Try.ntmps22
  go_wp2_with (go_at_call 26; refine (rsign_c _ (by assumption) (by assumption) _).mono ?_; rintro e w' ⟨rfl, rfl⟩)
  go_ret
  exact ⟨rfl, rfl⟩
theorem rlessu_c (a b : Int) (w : World) :
    Calls Try.prog 24 #[.int .u32 a, .int .u32 b] w fun e w' => e = .returned (.bool (decide (a < b))) ∧ w = w' := by
  go_enter Try.func24, Try.ntmps24
  go_wp2
  go_ret
  exact ⟨rfl, rfl⟩

theorem rdiv_c (a b : Int) (g0 : 0 ≤ a) (g1 : a < 4294967296) (h0 : 0 ≤ b) (h1 : b < 4294967296) (w : World) :
    Calls Try.prog 40 #[.int .u32 a, .int .u32 b] w fun e w' => e = .returned (.int .u32 (divS a b)) ∧ w = w' := by
  by_cases hb : b = 0
  · subst hb
    go_enter Try.func40, Try.ntmps40
    go_wp2
    go_ret
    exact ⟨rfl, rfl⟩
  · have E : Hid (divS a b = (sg a).tdiv (sg b) % 4294967296) := Lib.hid (if_neg hb)
    have b1 := sg_bd a g0 g1
    have b2 := sg_bd b h0 h1
    have hs : ¬ (sg b = 0) := by unfold sg; split <;> omega
    have q0 := tdiv_bd (sg a) (sg b) 2147483648 (by omega)
    have hb0 : (b == 0) = false := by simpa using hb
    clear hb
    go_enter Try.func40, Try.ntmps40
    go_wp2_with (first | (go_at_call 26; refine (rsign_c _ (by assumption) (by assumption) _).mono ?_; rintro e w' ⟨rfl, rfl⟩) | (go_at_call 48; refine (word_c _ _).mono ?_; rintro e w' ⟨rfl, rfl⟩))
    go_ret
    exact ⟨ret_int E.out.symm, rfl⟩
theorem rrem_c (a b : Int) (g0 : 0 ≤ a) (g1 : a < 4294967296) (h0 : 0 ≤ b) (h1 : b < 4294967296) (w : World) :
    Calls Try.prog 44 #[.int .u32 a, .int .u32 b] w fun e w' => e = .returned (.int .u32 (remS a b)) ∧ w = w' := by
  by_cases hb : b = 0
  · subst hb
    go_enter Try.func44, Try.ntmps44
    go_wp2
    go_ret
    exact ⟨rfl, rfl⟩
  · have E : Hid (remS a b = (sg a).tmod (sg b) % 4294967296) := Lib.hid (if_neg hb)
    have b1 := sg_bd a g0 g1
    have b2 := sg_bd b h0 h1
    have hs : ¬ (sg b = 0) := by unfold sg; split <;> omega
    have hb0 : (b == 0) = false := by simpa using hb
    clear hb
    go_enter Try.func44, Try.ntmps44
    go_wp2_with (first | (go_at_call 26; refine (rsign_c _ (by assumption) (by assumption) _).mono ?_; rintro e w' ⟨rfl, rfl⟩) | (go_at_call 48; refine (word_c _ _).mono ?_; rintro e w' ⟨rfl, rfl⟩))
    go_ret
    exact ⟨ret_int E.out.symm, rfl⟩
theorem ediv_lt (a b : Int) (g0 : 0 ≤ a) (g1 : a < 4294967296) (h0 : 0 ≤ b) : a / b % 4294967296 = a / b :=
  Int.emod_eq_of_lt (Int.ediv_nonneg g0 h0) (Int.lt_of_le_of_lt (Int.ediv_le_self _ g0) g1)
theorem emod_lt (a b : Int) (h0 : 0 ≤ b) (h1 : b < 4294967296) (hb : b ≠ 0) : a % b % 4294967296 = a % b :=
  Int.emod_eq_of_lt (Int.emod_nonneg _ hb) (Int.lt_trans (Int.emod_lt_of_pos _ (by omega)) h1)
theorem rdivu_c (a b : Int) (g0 : 0 ≤ a) (g1 : a < 4294967296) (h0 : 0 ≤ b) (h1 : b < 4294967296) (w : World) :
    Calls Try.prog 42 #[.int .u32 a, .int .u32 b] w fun e w' => e = .returned (.int .u32 (divP a b)) ∧ w = w' := by
  by_cases hb : b = 0
  · subst hb
    go_enter Try.func42, Try.ntmps42
    go_wp2
    go_ret
    exact ⟨rfl, rfl⟩
  · have E : Hid (divP a b = a / b) := Lib.hid (by unfold divP; rw [if_neg hb, ediv_lt a b g0 g1 h0])
    have hb0 : (b == 0) = false := by simpa using hb
    have hb1 : 1 ≤ b := by omega
    go_enter Try.func42, Try.ntmps42
    go_wp2
    go_ret
    exact ⟨ret_int E.out.symm, rfl⟩
theorem rremu_c (a b : Int) (g0 : 0 ≤ a) (h0 : 0 ≤ b) (h1 : b < 4294967296) (w : World) :
    Calls Try.prog 46 #[.int .u32 a, .int .u32 b] w fun e w' => e = .returned (.int .u32 (remP a b)) ∧ w = w' := by
  by_cases hb : b = 0
  · subst hb
    go_enter Try.func46, Try.ntmps46
    go_wp2
    go_ret
    exact ⟨rfl, rfl⟩
  · have E : Hid (remP a b = a % b) := Lib.hid (by unfold remP; rw [if_neg hb, emod_lt a b h0 h1 hb])
    have hb0 : (b == 0) = false := by simpa using hb
    have hb1 : 1 ≤ b := by omega
    go_enter Try.func46, Try.ntmps46
    go_wp2
    go_ret
    exact ⟨ret_int E.out.symm, rfl⟩

/-! ### powers of two -/
theorem pow_bd (k : Nat) (h : k ≤ 32) : 1 ≤ (2 : Int) ^ k ∧ (2 : Int) ^ k ≤ 4294967296 := by
  have h1 : (2 : Nat) ^ k ≤ 2 ^ 32 := Nat.pow_le_pow_right (by decide) h
  have h2 : 0 < (2 : Nat) ^ k := Nat.two_pow_pos k
  have e : ((2 : Int) ^ k) = ((2 ^ k : Nat) : Int) := by simp
  rw [e]; omega

theorem power_c (n : Int) (h0 : 0 ≤ n) (h1 : n < 4294967296) (w : World) :
    Calls Try.prog 47 #[.int .u32 n] w fun e w' => e = .returned (.int .i64 (2 ^ (n % 32).toNat)) ∧ w = w' := by
  have hm0 : 0 ≤ n % 32 := by omega
  have hm1 : n % 32 < 32 := by omega
  go_enter Try.func47, Try.ntmps47
  go_wp2
  go_loop [3, 4] (fun p i => ∃ k : Nat, (k : Int) ≤ n % 32 ∧ i = .int .u32 k ∧ p = .int .i64 (2 ^ k)) (fun _ i => (n % 32).toNat - (intOf i).toNat)
  case atStart => exact ⟨0, by omega, rfl, rfl⟩
  case round =>
    obtain ⟨k, hk, rfl, rfl⟩ := hrel
    have hp := pow_bd k (by omega)
    by_cases hlt : (k : Int) < n % 32
    · have P : Hid ((2 : Int) ^ k * 2 = 2 ^ (k + 1)) := Lib.hid (Int.pow_succ ..).symm
      go_wp2
      go_round
      case rel => exact ⟨k + 1, by omega, by go_num, by rw [P.out]⟩
      case measure => simp [intOf]; omega
    · have P : Hid ((n % 32).toNat = k) := Lib.hid (by omega)
      go_wp2
      go_ret
      exact ⟨ret_int (by rw [P.out]), rfl⟩

theorem rshl_c (a n : Int) (g0 : 0 ≤ a) (g1 : a < 4294967296) (h0 : 0 ≤ n) (h1 : n < 4294967296) (w : World) :
    Calls Try.prog 16 #[.int .u32 a, .int .u32 n] w fun e w' => e = .returned (.int .u32 (a * 2 ^ (n % 32).toNat % 4294967296)) ∧ w = w' := by
  have hm0 : 0 ≤ n % 32 := by omega
  have hm1 : n % 32 < 32 := by omega
  have Z : Hid (a * 2 ^ 0 % 4294967296 = a) := Lib.hid (by simp; omega)
  go_enter Try.func16, Try.ntmps16
  go_wp2
  go_loop [0, 5] (fun p i => ∃ k : Nat, (k : Int) ≤ n % 32 ∧ i = .int .u32 k ∧ p = .int .u32 (a * 2 ^ k % 4294967296)) (fun _ i => (n % 32).toNat - (intOf i).toNat)
  case atStart => exact ⟨0, by omega, rfl, by rw [Z.out]⟩
  case round =>
    obtain ⟨k, hk, rfl, rfl⟩ := hrel
    by_cases hlt : (k : Int) < n % 32
    · have P : Hid (a * 2 ^ k % 4294967296 * 2 % 4294967296 = a * 2 ^ (k + 1) % 4294967296) := Lib.hid (by rw [Int.pow_succ, ← Int.mul_assoc]; omega)
      have hr : 0 ≤ a * 2 ^ k % 4294967296 ∧ a * 2 ^ k % 4294967296 < 4294967296 := by omega
      go_wp2_with (go_at_call 48; refine (word_c _ _).mono ?_; rintro e w' ⟨rfl, rfl⟩)
      go_round
      case rel => exact ⟨k + 1, by omega, by go_num, by rw [P.out]⟩
      case measure => simp [intOf]; omega
    · have P : Hid ((n % 32).toNat = k) := Lib.hid (by omega)
      go_wp2
      go_ret
      exact ⟨ret_int (by rw [P.out]), rfl⟩
theorem rshr_c (a n : Int) (g0 : 0 ≤ a) (g1 : a < 4294967296) (h0 : 0 ≤ n) (h1 : n < 4294967296) (w : World) :
    Calls Try.prog 18 #[.int .u32 a, .int .u32 n] w fun e w' => e = .returned (.int .u32 (a / 2 ^ (n % 32).toNat)) ∧ w = w' := by
  have hp := pow_bd (n % 32).toNat (by omega)
  have E := Lib.hid (ediv_lt a (2 ^ (n % 32).toNat) g0 g1 (by omega))
  have hs : ¬ ((2 : Int) ^ (n % 32).toNat = 0) := by omega
  go_enter Try.func18, Try.ntmps18
  go_wp2_with (first | (go_at_call 47; refine (power_c _ (by assumption) (by assumption) _).mono ?_; rintro e w' ⟨rfl, rfl⟩) | (go_at_call 48; refine (word_c _ _).mono ?_; rintro e w' ⟨rfl, rfl⟩))
  go_ret
  exact ⟨ret_int E.out, rfl⟩
theorem rsar_c (a n : Int) (g0 : 0 ≤ a) (g1 : a < 4294967296) (h0 : 0 ≤ n) (h1 : n < 4294967296) (w : World) :
    Calls Try.prog 20 #[.int .u32 a, .int .u32 n] w fun e w' => e = .returned (.int .u32 (sg a / 2 ^ (n % 32).toNat % 4294967296)) ∧ w = w' := by
  have hp := pow_bd (n % 32).toNat (by omega)
  have hs : ¬ ((2 : Int) ^ (n % 32).toNat = 0) := by omega
  have b1 := sg_bd a g0 g1
  have T := tfloor (sg a) (2 ^ (n % 32).toNat) (by omega)
  have b := tdiv_bd (sg a) (2 ^ (n % 32).toNat) 2147483648 (by omega)
  have b2 := tmul_bd (sg a) (2 ^ (n % 32).toNat) 2147483648 (by omega)
  have b3 : -2147483648 ≤ (sg a).tdiv (2 ^ (n % 32).toNat) := by omega
  have b4 : (sg a).tdiv (2 ^ (n % 32).toNat) * (2 ^ (n % 32).toNat) ≤ 2147483648 := by omega
  have b5 : -2147483648 ≤ (sg a).tdiv (2 ^ (n % 32).toNat) * (2 ^ (n % 32).toNat) := by omega
  have b6 : (sg a).tdiv (2 ^ (n % 32).toNat) ≤ 2147483648 := by omega
  clear b b2
  by_cases h : sg a < 0
  · by_cases hq : (sg a).tdiv (2 ^ (n % 32).toNat) * (2 ^ (n % 32).toNat) = sg a
    · have hq' : ((sg a).tdiv (2 ^ (n % 32).toNat) * (2 ^ (n % 32).toNat) != sg a) = false := by simpa using hq
      have E := Lib.hid (T.1 (Or.inr hq))
      clear T hq
      go_enter Try.func20, Try.ntmps20
      go_wp2_with (first | (go_at_call 26; refine (rsign_c _ (by assumption) (by assumption) _).mono ?_; rintro e w' ⟨rfl, rfl⟩) | (go_at_call 47; refine (power_c _ (by assumption) (by assumption) _).mono ?_; rintro e w' ⟨rfl, rfl⟩) | (go_at_call 48; refine (word_c _ _).mono ?_; rintro e w' ⟨rfl, rfl⟩))
      go_ret
      exact ⟨ret_int (by rw [E.out]), rfl⟩
    · have hq' : ((sg a).tdiv (2 ^ (n % 32).toNat) * (2 ^ (n % 32).toNat) != sg a) = true := by simpa using hq
      have E := Lib.hid (T.2 (by omega) hq)
      clear T hq
      go_enter Try.func20, Try.ntmps20
      go_wp2_with (first | (go_at_call 26; refine (rsign_c _ (by assumption) (by assumption) _).mono ?_; rintro e w' ⟨rfl, rfl⟩) | (go_at_call 47; refine (power_c _ (by assumption) (by assumption) _).mono ?_; rintro e w' ⟨rfl, rfl⟩) | (go_at_call 48; refine (word_c _ _).mono ?_; rintro e w' ⟨rfl, rfl⟩))
      go_ret
      exact ⟨ret_int (by rw [E.out]), rfl⟩
  · have E := Lib.hid (T.1 (Or.inl (by omega)))
    clear T
    go_enter Try.func20, Try.ntmps20
    go_wp2_with (first | (go_at_call 26; refine (rsign_c _ (by assumption) (by assumption) _).mono ?_; rintro e w' ⟨rfl, rfl⟩) | (go_at_call 47; refine (power_c _ (by assumption) (by assumption) _).mono ?_; rintro e w' ⟨rfl, rfl⟩) | (go_at_call 48; refine (word_c _ _).mono ?_; rintro e w' ⟨rfl, rfl⟩))
    go_ret
    exact ⟨ret_int (by rw [E.out]), rfl⟩
end Go.Proofs.Ythlildlfppdldaa
