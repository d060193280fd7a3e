/- Plain facts on 32-bit numbers, as integers: signs, products by halves, quotients, shifts. No program is in sight. -/
import Derived.IntWalk
namespace Go.Proofs.Ythlildlfppdldaa.Am
open Go.RowKit

/-- the number with a sign -/
def sg (a : Int) : Int := if a < 2147483648 then a else a - 4294967296

theorem sg_bd (a : Int) (h0 : 0 ≤ a) (h1 : a < 4294967296) : -2147483648 ≤ sg a ∧ sg a < 2147483648 := by
  unfold sg; split <;> omega

theorem wrap32_sg (a : Int) (h0 : 0 ≤ a) (h1 : a < 4294967296) : wrap32 a = sg a := by
  unfold wrap32 sg; split <;> omega

theorem sg_mod (a : Int) (h0 : 0 ≤ a) (h1 : a < 4294967296) : sg a % 4294967296 = a := by
  unfold sg; split <;> omega

theorem wf_bd (a : Int) (h : (Lit.int .u32 a).wf = true) : 0 ≤ a ∧ a < 4294967296 := by
  simp [Lit.wf, IntKind.min, IntKind.max, IntKind.signed, IntKind.bits] at h; omega

theorem mul_bd (x y : Int) (A B : Nat) (h1 : -(A : Int) ≤ x ∧ x ≤ A) (h2 : -(B : Int) ≤ y ∧ y ≤ B) : -((A * B : Nat) : Int) ≤ x * y ∧ x * y ≤ ((A * B : Nat) : Int) := by
  have hx : x.natAbs ≤ A := by omega
  have hy : y.natAbs ≤ B := by omega
  have h := Nat.mul_le_mul hx hy
  rw [← Int.natAbs_mul] at h
  constructor <;> omega

theorem mul_nn (x y : Int) (hx : 0 ≤ x) (hy : 0 ≤ y) : 0 ≤ x * y := Int.mul_nonneg hx hy

/-- the product's lower half, by halves -/
theorem mul_halves (a b : Int) : (a * (b % 65536) + (a * (b / 65536)) % 4294967296 % 65536 * 65536) % 4294967296 = (a * b) % 4294967296 := by
  have e : a * b = a * (b / 65536) * 65536 + a * (b % 65536) := by
    rw [Int.mul_assoc, ← Int.mul_add]; congr 1; omega
  rw [e]
  generalize a * (b / 65536) = p
  generalize a * (b % 65536) = q
  omega

/-- the product's upper half, by halves of both -/
theorem mul_upper (a b : Int) (ha : 0 ≤ a) (ha1 : a < 4294967296) (hb : 0 ≤ b) (hb1 : b < 4294967296) :
    ((a / 65536) * (b / 65536) + ((a / 65536) * (b % 65536) + (a % 65536) * (b / 65536) + (a % 65536) * (b % 65536) / 65536) / 65536) % 4294967296 = (a * b) / 4294967296 % 4294967296 := by
  have e : a * b = (a / 65536) * (b / 65536) * 4294967296 + ((a / 65536) * (b % 65536) + (a % 65536) * (b / 65536)) * 65536 + (a % 65536) * (b % 65536) := by
    have e1 : a = (a / 65536) * 65536 + a % 65536 := by omega
    have e2 : b = (b / 65536) * 65536 + b % 65536 := by omega
    generalize a / 65536 = x at *
    generalize a % 65536 = y at *
    generalize b / 65536 = z at *
    generalize b % 65536 = t at *
    subst e1 e2
    simp only [Int.add_mul, Int.mul_add]
    have : x * 65536 * (z * 65536) = x * z * 4294967296 := by
      rw [Int.mul_assoc, Int.mul_comm 65536 (z * 65536), Int.mul_assoc z, ← Int.mul_assoc x]; rfl
    have h2 : x * 65536 * t = x * t * 65536 := by rw [Int.mul_assoc, Int.mul_comm 65536 t, ← Int.mul_assoc]
    have h3 : y * (z * 65536) = y * z * 65536 := by rw [← Int.mul_assoc]
    omega
  rw [e]
  have m1 := mul_nn (a / 65536) (b / 65536) (by omega) (by omega)
  have m2 := mul_nn (a / 65536) (b % 65536) (by omega) (by omega)
  have m3 := mul_nn (a % 65536) (b / 65536) (by omega) (by omega)
  have m4 := mul_nn (a % 65536) (b % 65536) (by omega) (by omega)
  generalize (a / 65536) * (b / 65536) = p at *
  generalize (a / 65536) * (b % 65536) = q at *
  generalize (a % 65536) * (b / 65536) = r at *
  generalize (a % 65536) * (b % 65536) = s at *
  omega

/-- the upper half, off 64 bits -/
theorem upper_of (x : Int) : x % 18446744073709551616 / 4294967296 % 4294967296 = x / 4294967296 % 4294967296 := by omega

end Go.Proofs.Ythlildlfppdldaa.Am
