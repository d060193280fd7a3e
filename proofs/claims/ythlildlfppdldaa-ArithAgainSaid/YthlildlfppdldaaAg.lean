/- Plain facts for the stage's theorem of layer 1: quotient times divisor and what is left; what is moved down and up again. -/
import Derived.Test.YthlildlfppdldaaAr3
namespace Go.Proofs.Ythlildlfppdldaa
open Go.RowKit Am

theorem emod_mul_sub (x y m : Int) : (x % m * y) % m = (x * y) % m := by
  rw [Int.mul_emod (x % m) y m, Int.emod_emod_of_dvd x (Int.dvd_refl m), ← Int.mul_emod]

theorem again_s (a b : Int) (g0 : 0 ≤ a) (g1 : a < 4294967296) (h0 : 0 ≤ b) (h1 : b < 4294967296) (hb : b ≠ 0) :
    ((divS a b * b) % 4294967296 + remS a b) % 4294967296 = a := by
  unfold divS remS
  rw [if_neg hb, if_neg hb, emod_mul_sub]
  have e : sg b % 4294967296 = b % 4294967296 := by rw [sg_mod b h0 h1]; omega
  have m : ((sg a).tdiv (sg b) * b) % 4294967296 = ((sg a).tdiv (sg b) * sg b) % 4294967296 := by
    rw [Int.mul_emod _ b, ← e, ← Int.mul_emod]
  have d := Int.tmod_add_tdiv_mul (sg a) (sg b)
  have s := sg_mod a g0 g1
  rw [m]; omega

theorem again_p (a b : Int) (g0 : 0 ≤ a) (g1 : a < 4294967296) (h0 : 0 ≤ b) (h1 : b < 4294967296) (hb : b ≠ 0) :
    ((divP a b * b) % 4294967296 + remP a b) % 4294967296 = a ∧ ¬ (b ≤ remP a b) := by
  unfold divP remP
  rw [if_neg hb, if_neg hb, ediv_lt a b g0 g1 h0, emod_lt a b h0 h1 hb]
  have d := Int.emod_add_ediv_mul a b
  have l := Int.emod_lt_of_pos a (show 0 < b by omega)
  constructor <;> omega

theorem moved (a : Int) (k : Nat) (g0 : 0 ≤ a) (g1 : a < 4294967296) (hk : k < 32) :
    (a / 2 ^ k * 2 ^ k) % 4294967296 = a / 2 ^ k * 2 ^ k ∧ (a - a / 2 ^ k * 2 ^ k) % 4294967296 = a % 2 ^ k ∧ 0 ≤ a % 2 ^ k ∧ a % 2 ^ k < 2 ^ k ∧ (k = 0 → a % 2 ^ k = 0) ∧ (1 : Int) ≤ 2 ^ k ∧ (2 : Int) ^ k ≤ 2147483648 := by
  have p := pow_bd k (by omega)
  have p2 : (2 : Int) ^ k ≤ 2147483648 := by
    have h1 : (2 : Nat) ^ k ≤ 2 ^ 31 := Nat.pow_le_pow_right (by decide) (by omega)
    have e : ((2 : Int) ^ k) = ((2 ^ k : Nat) : Int) := by simp
    rw [e]; omega
  have d := Int.emod_add_ediv_mul a (2 ^ k)
  have n := Int.emod_nonneg a (show (2 : Int) ^ k ≠ 0 by omega)
  have l := Int.emod_lt_of_pos a (show (0 : Int) < 2 ^ k by omega)
  have q := mul_nn (a / 2 ^ k) (2 ^ k) (Int.ediv_nonneg g0 (by omega)) (by omega)
  refine ⟨by omega, by omega, n, l, ?_, p.1, p2⟩
  intro h; subst h; simp
theorem sg_inj (a b : Int) (g0 : 0 ≤ a) (g1 : a < 4294967296) (h0 : 0 ≤ b) (h1 : b < 4294967296) (h : sg a = sg b) : a = b := by
  have s := sg_mod a g0 g1
  have t := sg_mod b h0 h1
  rw [h] at s; omega
end Go.Proofs.Ythlildlfppdldaa
