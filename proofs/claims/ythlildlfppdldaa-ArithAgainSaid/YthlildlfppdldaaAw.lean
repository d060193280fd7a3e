/- Contracts of the functions of package arith and of its reference: what each call returns, for words as integers from 0 to 2^32 - 1. -/
import Derived.Test.YthlildlfppdldaaRows
import Derived.Test.YthlildlfppdldaaAm
import Derived.WalkKit
import Derived.WalkSpells
import Derived.WalkLawsBesides
import Derived.Deep.QuietTactic
import Derived.BigQuiet
import Derived.ProofKit
namespace Go.Proofs.Ythlildlfppdldaa
open Go.RowKit Am

theorem ret_int {k : IntKind} {a b : Int} (h : a = b) : Ending.returned (.int k a) = .returned (.int k b) := by rw [h]
theorem ret_bool {a b : Bool} (h : a = b) : Ending.returned (.bool a) = .returned (.bool b) := by rw [h]

/-! ### the program -/
theorem add_c (a b : Int) (w : World) :
    Calls Try.prog 27 #[.int .u32 a, .int .u32 b] w fun e w' => e = .returned (.int .u32 ((a + b) % 4294967296)) ∧ w = w' := by
  go_enter Try.func27, Try.ntmps27
  go_wp2
  go_ret
  exact ⟨rfl, rfl⟩
theorem sub_c (a b : Int) (w : World) :
    Calls Try.prog 29 #[.int .u32 a, .int .u32 b] w fun e w' => e = .returned (.int .u32 ((a - b) % 4294967296)) ∧ w = w' := by
  go_enter Try.func29, Try.ntmps29
  go_wp2
  go_ret
  exact ⟨rfl, rfl⟩
theorem mul_c (a b : Int) (w : World) :
    Calls Try.prog 31 #[.int .u32 a, .int .u32 b] w fun e w' => e = .returned (.int .u32 ((a * b) % 4294967296)) ∧ w = w' := by
  go_enter Try.func31, Try.ntmps31
  go_wp2
  go_ret
  exact ⟨rfl, rfl⟩
theorem sign_c (a : Int) (h0 : 0 ≤ a) (h1 : a < 4294967296) (w : World) :
    Calls Try.prog 25 #[.int .u32 a] w fun e w' => e = .returned (.int .i64 (sg a)) ∧ w = w' := by
  have e1 := wrap32_sg a h0 h1
  have b1 := sg_bd a h0 h1
  go_enter Try.func25, Try.ntmps25
  go_wp2
  go_ret
  exact ⟨rfl, rfl⟩
theorem less_c (a b : Int) (h0 : 0 ≤ a) (h1 : a < 4294967296) (g0 : 0 ≤ b) (g1 : b < 4294967296) (w : World) :
    Calls Try.prog 21 #[.int .u32 a, .int .u32 b] w fun e w' => e = .returned (.bool (decide (sg a < sg b))) ∧ w = w' := by
  have e1 := wrap32_sg a h0 h1
  have e2 := wrap32_sg b g0 g1
  go_enter Try.func21, Try.ntmps21
  go_wp2
  go_ret
  exact ⟨rfl, rfl⟩
theorem lessu_c (a b : Int) (w : World) :
    Calls Try.prog 23 #[.int .u32 a, .int .u32 b] w fun e w' => e = .returned (.bool (decide (a < b))) ∧ w = w' := by
  go_enter Try.func23, Try.ntmps23
  go_wp2
  go_ret
  exact ⟨rfl, rfl⟩
theorem mask31 (n : Int) (h0 : 0 ≤ n) (h1 : n < 4294967296) : bits BinOp.and IntKind.u32 n 31 = n % 32 := by
  rw [u32_and n 31 h0 h1 (by omega) (by omega)]
  have : (31 : Int).toNat = 31 := rfl
  rw [this, nat_mask5]; omega
theorem shl_c (a n : Int) (h0 : 0 ≤ n) (h1 : n < 4294967296) (w : World) :
    Calls Try.prog 15 #[.int .u32 a, .int .u32 n] w fun e w' => e = .returned (.int .u32 ((a * 2 ^ (n % 32).toNat) % 4294967296)) ∧ w = w' := by
  have m1 := mask31 n h0 h1
  have b1 : 0 ≤ n % 32 := by omega
  have b2 : n % 32 ≤ 32 := by omega
  go_enter Try.func15, Try.ntmps15
  go_wp2
  go_ret
  exact ⟨rfl, rfl⟩
theorem shr_c (a n : Int) (h0 : 0 ≤ n) (h1 : n < 4294967296) (w : World) :
    Calls Try.prog 17 #[.int .u32 a, .int .u32 n] w fun e w' => e = .returned (.int .u32 (a / 2 ^ (n % 32).toNat)) ∧ w = w' := by
  have m1 := mask31 n h0 h1
  have b1 : 0 ≤ n % 32 := by omega
  have b2 : n % 32 ≤ 32 := by omega
  go_enter Try.func17, Try.ntmps17
  go_wp2
  go_ret
  exact ⟨rfl, rfl⟩
theorem sar_c (a n : Int) (g0 : 0 ≤ a) (g1 : a < 4294967296) (h0 : 0 ≤ n) (h1 : n < 4294967296) (w : World) :
    Calls Try.prog 19 #[.int .u32 a, .int .u32 n] w fun e w' => e = .returned (.int .u32 ((sg a / 2 ^ (n % 32).toNat) % 4294967296)) ∧ w = w' := by
  have m1 := mask31 n h0 h1
  have e1 := wrap32_sg a g0 g1
  have b1 : 0 ≤ n % 32 := by omega
  have b2 : n % 32 ≤ 32 := by omega
  go_enter Try.func19, Try.ntmps19
  go_wp2
  go_ret
  exact ⟨rfl, rfl⟩

theorem grown_ret {W w1 : World} {v v' : Value} (e : Ending) (he : e = .returned v) (hv : v = v') (h : Grown W w1) : e = .returned v' ∧ Grown W w1 := ⟨by rw [he, hv], h⟩

theorem halves_c (n : Int) (w : World) :
    Calls Try.prog 53 #[.int .u64 n] w fun e w' => e = .returned (.agg #[.int .u32 (n % 4294967296), .int .u32 (n / 4294967296 % 4294967296)]) ∧ Grown w w' := by
  go_enter Try.func53, Try.ntmps53
  go_wp2
  exact bodyPost_ret (v := .agg #[.int .u32 (n % 4294967296), .int .u32 (n / 4294967296 % 4294967296)]) (by simp [results, Try.results53, go_sem]) rfl ⟨rfl, (Grown.refl _).alloc _ _⟩

end Go.Proofs.Ythlildlfppdldaa
