/- The reference of the lowest bits with their sign; the program's answer is the same number. -/
import Derived.Test.YthlildlfppdldaaAr2
namespace Go.Proofs.Ythlildlfppdldaa
open Go.RowKit Am

theorem pow_split (b : Int) (h0 : 1 ≤ b) (h1 : b < 32) : ∃ q r : Int, 1 ≤ q ∧ 1 ≤ r ∧ (2 : Int) ^ (b % 32).toNat = 2 * r ∧ (2 : Int) ^ ((32 - b) % 32).toNat = q ∧ q * (2 * r) = 4294967296 := by
  obtain ⟨k, rfl⟩ : ∃ k : Nat, b = (k : Int) + 1 := ⟨(b - 1).toNat, by omega⟩
  have e1 : (((k : Int) + 1) % 32).toNat = k + 1 := by omega
  have e2 : ((32 - ((k : Int) + 1)) % 32).toNat = 31 - k := by omega
  rw [e1, e2]
  refine ⟨2 ^ (31 - k), 2 ^ k, ?_, ?_, ?_, rfl, ?_⟩
  · exact (pow_bd _ (by omega)).1
  · exact (pow_bd _ (by omega)).1
  · rw [Int.pow_succ, Int.mul_comm]
  · rw [show (2 : Int) * 2 ^ k = 2 ^ (k + 1) from by rw [Int.pow_succ, Int.mul_comm], ← Int.pow_add, show 31 - k + (k + 1) = 32 from by omega]; rfl

theorem mul_emod_mul (a b c : Int) (hc : 0 < c) : a * c % (b * c) = a % b * c := by
  rw [Int.mul_comm a, Int.mul_comm b, Int.mul_emod_mul_of_pos _ _ hc, Int.mul_comm]
theorem le_mul_left' (q r : Int) (hr : 0 ≤ r) (hq : 1 ≤ q) : r ≤ q * r := by
  have := Int.mul_le_mul_of_nonneg_right hq hr; omega
theorem ext_math (n q r : Int) (hq : 1 ≤ q) (hr : 1 ≤ r) (h : q * (2 * r) = 4294967296) :
    sg (n * q % 4294967296) / q = if n % (2 * r) < r then n % (2 * r) else n % (2 * r) - 2 * r := by
  have e : n * q % 4294967296 = n % (2 * r) * q := by
    rw [← h, Int.mul_comm q, mul_emod_mul _ _ _ (by omega)]
  have hm0 : 0 ≤ n % (2 * r) := Int.emod_nonneg _ (by omega)
  rw [e]
  generalize n % (2 * r) = x at *
  have h2 : 2147483648 = r * q := by have : 2 * (r * q) = 4294967296 := by rw [← h, Int.mul_comm q, Int.mul_assoc]
                                     omega
  have h3 : (x < r) ↔ (x * q < 2147483648) := by
    rw [h2]; exact (Int.mul_lt_mul_right (by omega)).symm
  unfold sg
  by_cases hx : x < r
  · rw [if_pos (h3.1 hx), if_pos hx]; exact Int.mul_ediv_cancel _ (by omega)
  · rw [if_neg (fun hh => hx (h3.2 hh)), if_neg hx]
    rw [← h, Int.mul_comm q, ← Int.sub_mul]; exact Int.mul_ediv_cancel _ (by omega)

theorem rextend_c (n bits : Int) (g0 : 0 ≤ n) (g1 : n < 4294967296) (h0 : -9223372036854775808 ≤ bits) (h1 : bits ≤ 9223372036854775807) (w : World) :
    Calls Try.prog 13 #[.int .u32 n, .int .i64 bits] w fun e w' => e = .returned (.int .u32 ((sg (n * 2 ^ (extN bits % 32).toNat % 4294967296) / 2 ^ (extN bits % 32).toNat) % 4294967296)) ∧ w = w' := by
  have whole : extN bits % 32 = 0 → (sg (n * 2 ^ (extN bits % 32).toNat % 4294967296) / 2 ^ (extN bits % 32).toNat) % 4294967296 = n := by
    intro e; rw [e]; simp; rw [show n % 4294967296 = n from by omega]; exact sg_mod n g0 g1
  by_cases hb : bits < 1
  · have E := Lib.hid (whole (by unfold extN; rw [if_pos (Or.inl hb)]; rfl))
    clear whole
    go_enter Try.func13, Try.ntmps13
    go_wp2
    go_ret
    exact ⟨ret_int E.out.symm, rfl⟩
  by_cases hc : 32 ≤ bits
  · have E := Lib.hid (whole (by unfold extN; split <;> omega))
    clear whole
    go_enter Try.func13, Try.ntmps13
    go_wp2
    go_ret
    exact ⟨ret_int E.out.symm, rfl⟩
  · clear whole
    obtain ⟨q, r, hq, hr, e1, e2, hqr⟩ := pow_split bits (by omega) (by omega)
    have M := ext_math n q r hq hr hqr
    have X : extN bits = 32 - bits := by unfold extN; rw [if_neg (by omega)]
    rw [X, e2, M]
    have hm0 : 0 ≤ n % (2 * r) := Int.emod_nonneg _ (by omega)
    have hm1 : n % (2 * r) < 2 * r := Int.emod_lt_of_pos _ (by omega)
    have r1 : r ≤ 2147483648 := by
      have : 2 * r ≤ q * (2 * r) := le_mul_left' _ _ (by omega) hq
      omega
    have hs : ¬ (2 * r = 0) := by omega
    have D : 2 * r / 2 = r := by omega
    have u : bits % 4294967296 = bits := by omega
    clear hqr M X e2 hq
    generalize hx : n % (2 * r) = x at *
    have HX := Lib.hid hx
    clear hx
    have E1 := Lib.hid e1
    clear e1
    by_cases hxr : x < r
    · go_enter Try.func13, Try.ntmps13
      go_wp2_with fail
      refine (power_c _ (by omega) (by omega) _).mono ?_; rintro e w' ⟨rfl, rfl⟩
      rw [E1.out]
      have hx := HX.out
      go_wp2_with (go_at_call 48; clear hx; refine (word_c _ _).mono ?_; rintro e w' ⟨rfl, rfl⟩)
      go_ret
      exact ⟨rfl, rfl⟩
    · go_enter Try.func13, Try.ntmps13
      go_wp2_with fail
      refine (power_c _ (by omega) (by omega) _).mono ?_; rintro e w' ⟨rfl, rfl⟩
      rw [E1.out]
      have hx := HX.out
      go_wp2_with (go_at_call 48; clear hx; refine (word_c _ _).mono ?_; rintro e w' ⟨rfl, rfl⟩)
      go_ret
      exact ⟨rfl, rfl⟩
end Go.Proofs.Ythlildlfppdldaa
