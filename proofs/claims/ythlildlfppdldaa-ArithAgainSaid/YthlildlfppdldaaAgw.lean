/- The nine ways through the stage's theorem of layer 1, each walked by contracts. -/
import Derived.Test.YthlildlfppdldaaAg
namespace Go.Proofs.Ythlildlfppdldaa
open Go.RowKit Am
set_option linter.unusedVariables false

set_option maxHeartbeats 400000 in
theorem walk000 (a0 : Int) (a1 : Int) (w0 : (Lit.int .u32 a0).wf = true) (w1 : (Lit.int .u32 a1).wf = true) (w : World)
    (hb : a1 = 0) (_hk0 : a1 % 32 = 0) (L1 : Hid (decide (sg a0 < sg a1) = true)) (L2 : Hid (decide (sg a1 < sg a0) = false)) (L3 : (a0 == a1) = false) :
    Calls Try.prog 11 #[.int .u32 a0, .int .u32 a1] w fun e w' => e = .returned (.bool true) ∧ Grown w w' := by
  obtain ⟨x0, x1⟩ := Am.wf_bd a0 w0
  obtain ⟨y0, y1⟩ := Am.wf_bd a1 w1
  obtain ⟨k, hk⟩ : ∃ k : Nat, a1 % 32 = (k : Int) := ⟨(a1 % 32).toNat, by omega⟩
  have k1 : k < 32 := by omega
  obtain ⟨m1, m2, m3, m4, m5, m6, m7⟩ := moved a0 k x0 x1 k1
  obtain ⟨f, hf⟩ : ∃ f, a0 % 2 ^ k = f := ⟨_, rfl⟩
  rw [hf] at m2 m3 m4 m5
  have M1 := Lib.hid m1
  have M2 := Lib.hid m2
  have KK : Hid (((k : Int) % 32).toNat = k) := Lib.hid (by omega)
  have A0 : Hid (((a0 + a1) % 4294967296 - a1) % 4294967296 = a0) := Lib.hid (by omega)
  clear m1 m2 hf
  have P1 : Hid ((2 : Int) ^ k = 2 ^ k) := Lib.hid rfl
  have k0 : k = 0 := by omega
  have f0 : (f == 0) = true := by rw [m5 k0]; rfl
  have kz : ((k : Int) == 0) = true := by rw [k0]; rfl
  clear k0 _hk0
  clear m5
  have hb0 : (a1 != 0) = false := by simpa using hb
  clear hb
  go_enter Try.func11, Try.ntmps11
  go_wp2_with fail
  refine (shr_c _ _ (by omega) (by omega) _).mono ?_; rintro e w' ⟨rfl, rfl⟩
  rw [KK.out]
  go_wp2_with fail
  refine (shl_c _ _ (by omega) (by omega) _).mono ?_; rintro e w' ⟨rfl, rfl⟩
  rw [KK.out, M1.out]
  go_wp2_with fail
  refine (sub_c _ _ _).mono ?_; rintro e w' ⟨rfl, rfl⟩
  rw [M2.out]
  go_wp2_with fail
  refine (less_c _ _ (by assumption) (by assumption) (by assumption) (by assumption) _).mono ?_; rintro e w' ⟨rfl, rfl⟩
  rw [L1.out]
  go_wp2_with fail
  refine (less_c _ _ (by assumption) (by assumption) (by assumption) (by assumption) _).mono ?_; rintro e w' ⟨rfl, rfl⟩
  rw [L2.out]
  go_wp2_with fail
  refine (add_c _ _ _).mono ?_; rintro e w' ⟨rfl, rfl⟩
  go_wp2_with fail
  refine (sub_c _ _ _).mono ?_; rintro e w' ⟨rfl, rfl⟩
  rw [A0.out]
  go_wp2_with fail
  refine (works_c _).mono ?_; rintro e w9 ⟨rfl, hg9⟩
  go_wp2
  go_ret
  exact ⟨rfl, hg9⟩

set_option maxHeartbeats 400000 in
theorem walk001 (a0 : Int) (a1 : Int) (w0 : (Lit.int .u32 a0).wf = true) (w1 : (Lit.int .u32 a1).wf = true) (w : World)
    (hb : a1 = 0) (_hk0 : a1 % 32 = 0) (L1 : Hid (decide (sg a0 < sg a1) = false)) (L2 : Hid (decide (sg a1 < sg a0) = true)) (L3 : (a0 == a1) = false) :
    Calls Try.prog 11 #[.int .u32 a0, .int .u32 a1] w fun e w' => e = .returned (.bool true) ∧ Grown w w' := by
  obtain ⟨x0, x1⟩ := Am.wf_bd a0 w0
  obtain ⟨y0, y1⟩ := Am.wf_bd a1 w1
  obtain ⟨k, hk⟩ : ∃ k : Nat, a1 % 32 = (k : Int) := ⟨(a1 % 32).toNat, by omega⟩
  have k1 : k < 32 := by omega
  obtain ⟨m1, m2, m3, m4, m5, m6, m7⟩ := moved a0 k x0 x1 k1
  obtain ⟨f, hf⟩ : ∃ f, a0 % 2 ^ k = f := ⟨_, rfl⟩
  rw [hf] at m2 m3 m4 m5
  have M1 := Lib.hid m1
  have M2 := Lib.hid m2
  have KK : Hid (((k : Int) % 32).toNat = k) := Lib.hid (by omega)
  have A0 : Hid (((a0 + a1) % 4294967296 - a1) % 4294967296 = a0) := Lib.hid (by omega)
  clear m1 m2 hf
  have P1 : Hid ((2 : Int) ^ k = 2 ^ k) := Lib.hid rfl
  have k0 : k = 0 := by omega
  have f0 : (f == 0) = true := by rw [m5 k0]; rfl
  have kz : ((k : Int) == 0) = true := by rw [k0]; rfl
  clear k0 _hk0
  clear m5
  have hb0 : (a1 != 0) = false := by simpa using hb
  clear hb
  go_enter Try.func11, Try.ntmps11
  go_wp2_with fail
  refine (shr_c _ _ (by omega) (by omega) _).mono ?_; rintro e w' ⟨rfl, rfl⟩
  rw [KK.out]
  go_wp2_with fail
  refine (shl_c _ _ (by omega) (by omega) _).mono ?_; rintro e w' ⟨rfl, rfl⟩
  rw [KK.out, M1.out]
  go_wp2_with fail
  refine (sub_c _ _ _).mono ?_; rintro e w' ⟨rfl, rfl⟩
  rw [M2.out]
  go_wp2_with fail
  refine (less_c _ _ (by assumption) (by assumption) (by assumption) (by assumption) _).mono ?_; rintro e w' ⟨rfl, rfl⟩
  rw [L1.out]
  go_wp2_with fail
  refine (less_c _ _ (by assumption) (by assumption) (by assumption) (by assumption) _).mono ?_; rintro e w' ⟨rfl, rfl⟩
  rw [L2.out]
  go_wp2_with fail
  refine (add_c _ _ _).mono ?_; rintro e w' ⟨rfl, rfl⟩
  go_wp2_with fail
  refine (sub_c _ _ _).mono ?_; rintro e w' ⟨rfl, rfl⟩
  rw [A0.out]
  go_wp2_with fail
  refine (works_c _).mono ?_; rintro e w9 ⟨rfl, hg9⟩
  go_wp2
  go_ret
  exact ⟨rfl, hg9⟩

set_option maxHeartbeats 400000 in
theorem walk002 (a0 : Int) (a1 : Int) (w0 : (Lit.int .u32 a0).wf = true) (w1 : (Lit.int .u32 a1).wf = true) (w : World)
    (hb : a1 = 0) (_hk0 : a1 % 32 = 0) (L1 : Hid (decide (sg a0 < sg a1) = false)) (L2 : Hid (decide (sg a1 < sg a0) = false)) (L3 : (a0 == a1) = true) :
    Calls Try.prog 11 #[.int .u32 a0, .int .u32 a1] w fun e w' => e = .returned (.bool true) ∧ Grown w w' := by
  obtain ⟨x0, x1⟩ := Am.wf_bd a0 w0
  obtain ⟨y0, y1⟩ := Am.wf_bd a1 w1
  obtain ⟨k, hk⟩ : ∃ k : Nat, a1 % 32 = (k : Int) := ⟨(a1 % 32).toNat, by omega⟩
  have k1 : k < 32 := by omega
  obtain ⟨m1, m2, m3, m4, m5, m6, m7⟩ := moved a0 k x0 x1 k1
  obtain ⟨f, hf⟩ : ∃ f, a0 % 2 ^ k = f := ⟨_, rfl⟩
  rw [hf] at m2 m3 m4 m5
  have M1 := Lib.hid m1
  have M2 := Lib.hid m2
  have KK : Hid (((k : Int) % 32).toNat = k) := Lib.hid (by omega)
  have A0 : Hid (((a0 + a1) % 4294967296 - a1) % 4294967296 = a0) := Lib.hid (by omega)
  clear m1 m2 hf
  have P1 : Hid ((2 : Int) ^ k = 2 ^ k) := Lib.hid rfl
  have k0 : k = 0 := by omega
  have f0 : (f == 0) = true := by rw [m5 k0]; rfl
  have kz : ((k : Int) == 0) = true := by rw [k0]; rfl
  clear k0 _hk0
  clear m5
  have hb0 : (a1 != 0) = false := by simpa using hb
  clear hb
  go_enter Try.func11, Try.ntmps11
  go_wp2_with fail
  refine (shr_c _ _ (by omega) (by omega) _).mono ?_; rintro e w' ⟨rfl, rfl⟩
  rw [KK.out]
  go_wp2_with fail
  refine (shl_c _ _ (by omega) (by omega) _).mono ?_; rintro e w' ⟨rfl, rfl⟩
  rw [KK.out, M1.out]
  go_wp2_with fail
  refine (sub_c _ _ _).mono ?_; rintro e w' ⟨rfl, rfl⟩
  rw [M2.out]
  go_wp2_with fail
  refine (less_c _ _ (by assumption) (by assumption) (by assumption) (by assumption) _).mono ?_; rintro e w' ⟨rfl, rfl⟩
  rw [L1.out]
  go_wp2_with fail
  refine (less_c _ _ (by assumption) (by assumption) (by assumption) (by assumption) _).mono ?_; rintro e w' ⟨rfl, rfl⟩
  rw [L2.out]
  go_wp2_with fail
  refine (add_c _ _ _).mono ?_; rintro e w' ⟨rfl, rfl⟩
  go_wp2_with fail
  refine (sub_c _ _ _).mono ?_; rintro e w' ⟨rfl, rfl⟩
  rw [A0.out]
  go_wp2_with fail
  refine (works_c _).mono ?_; rintro e w9 ⟨rfl, hg9⟩
  go_wp2
  go_ret
  exact ⟨rfl, hg9⟩

set_option maxHeartbeats 400000 in
theorem walk100 (a0 : Int) (a1 : Int) (w0 : (Lit.int .u32 a0).wf = true) (w1 : (Lit.int .u32 a1).wf = true) (w : World)
    (hb : a1 ≠ 0) (_hk0 : a1 % 32 = 0) (L1 : Hid (decide (sg a0 < sg a1) = true)) (L2 : Hid (decide (sg a1 < sg a0) = false)) (L3 : (a0 == a1) = false) :
    Calls Try.prog 11 #[.int .u32 a0, .int .u32 a1] w fun e w' => e = .returned (.bool true) ∧ Grown w w' := by
  obtain ⟨x0, x1⟩ := Am.wf_bd a0 w0
  obtain ⟨y0, y1⟩ := Am.wf_bd a1 w1
  obtain ⟨k, hk⟩ : ∃ k : Nat, a1 % 32 = (k : Int) := ⟨(a1 % 32).toNat, by omega⟩
  have k1 : k < 32 := by omega
  obtain ⟨m1, m2, m3, m4, m5, m6, m7⟩ := moved a0 k x0 x1 k1
  obtain ⟨f, hf⟩ : ∃ f, a0 % 2 ^ k = f := ⟨_, rfl⟩
  rw [hf] at m2 m3 m4 m5
  have M1 := Lib.hid m1
  have M2 := Lib.hid m2
  have KK : Hid (((k : Int) % 32).toNat = k) := Lib.hid (by omega)
  have A0 : Hid (((a0 + a1) % 4294967296 - a1) % 4294967296 = a0) := Lib.hid (by omega)
  clear m1 m2 hf
  have P1 : Hid ((2 : Int) ^ k = 2 ^ k) := Lib.hid rfl
  have k0 : k = 0 := by omega
  have f0 : (f == 0) = true := by rw [m5 k0]; rfl
  have kz : ((k : Int) == 0) = true := by rw [k0]; rfl
  clear k0 _hk0
  clear m5
  have hb0 : (a1 != 0) = true := by simpa using hb
  have e1 := again_s a0 a1 x0 x1 y0 y1 hb
  obtain ⟨e2, e3⟩ := again_p a0 a1 x0 x1 y0 y1 hb
  obtain ⟨d1, hd1⟩ : ∃ d1, divS a0 a1 = d1 := ⟨_, rfl⟩
  obtain ⟨d2, hd2⟩ : ∃ d2, divP a0 a1 = d2 := ⟨_, rfl⟩
  obtain ⟨r1, hr1⟩ : ∃ r1, remS a0 a1 = r1 := ⟨_, rfl⟩
  obtain ⟨r2, hr2⟩ : ∃ r2, remP a0 a1 = r2 := ⟨_, rfl⟩
  rw [hd1, hr1] at e1
  rw [hd2, hr2] at e2
  rw [hr2] at e3
  have E1 := Lib.hid e1
  have E2 := Lib.hid e2
  have D1 := Lib.hid hd1
  have D2 := Lib.hid hd2
  have R1 := Lib.hid hr1
  have R2 := Lib.hid hr2
  clear e1 e2 hd1 hd2 hr1 hr2 hb
  go_enter Try.func11, Try.ntmps11
  go_wp2_with fail
  refine (div_c _ _ (by assumption) (by assumption) (by assumption) (by assumption) _).mono ?_; rintro e w1 ⟨rfl, hg1⟩
  rw [D1.out]
  go_wp2_with fail
  refine (mul_c _ _ _).mono ?_; rintro e w' ⟨rfl, rfl⟩
  go_wp2_with fail
  refine (rem_c _ _ (by assumption) (by assumption) (by assumption) (by assumption) _).mono ?_; rintro e w2 ⟨rfl, hg2⟩
  rw [R1.out]
  go_wp2_with fail
  refine (add_c _ _ _).mono ?_; rintro e w' ⟨rfl, rfl⟩
  rw [E1.out]
  go_wp2_with fail
  refine (divu_c _ _ (by assumption) (by assumption) (by assumption) (by assumption) _).mono ?_; rintro e w3 ⟨rfl, hg3⟩
  rw [D2.out]
  go_wp2_with fail
  refine (mul_c _ _ _).mono ?_; rintro e w' ⟨rfl, rfl⟩
  go_wp2_with fail
  refine (remu_c _ _ (by assumption) (by assumption) (by assumption) (by assumption) _).mono ?_; rintro e w4 ⟨rfl, hg4⟩
  rw [R2.out]
  go_wp2_with fail
  refine (add_c _ _ _).mono ?_; rintro e w' ⟨rfl, rfl⟩
  rw [E2.out]
  go_wp2_with fail
  refine (remu_c _ _ (by assumption) (by assumption) (by assumption) (by assumption) _).mono ?_; rintro e w5 ⟨rfl, hg5⟩
  rw [R2.out]
  go_wp2_with fail
  refine (shr_c _ _ (by omega) (by omega) _).mono ?_; rintro e w' ⟨rfl, rfl⟩
  rw [KK.out]
  go_wp2_with fail
  refine (shl_c _ _ (by omega) (by omega) _).mono ?_; rintro e w' ⟨rfl, rfl⟩
  rw [KK.out, M1.out]
  go_wp2_with fail
  refine (sub_c _ _ _).mono ?_; rintro e w' ⟨rfl, rfl⟩
  rw [M2.out]
  go_wp2_with fail
  refine (less_c _ _ (by assumption) (by assumption) (by assumption) (by assumption) _).mono ?_; rintro e w' ⟨rfl, rfl⟩
  rw [L1.out]
  go_wp2_with fail
  refine (less_c _ _ (by assumption) (by assumption) (by assumption) (by assumption) _).mono ?_; rintro e w' ⟨rfl, rfl⟩
  rw [L2.out]
  go_wp2_with fail
  refine (add_c _ _ _).mono ?_; rintro e w' ⟨rfl, rfl⟩
  go_wp2_with fail
  refine (sub_c _ _ _).mono ?_; rintro e w' ⟨rfl, rfl⟩
  rw [A0.out]
  go_wp2_with fail
  refine (works_c _).mono ?_; rintro e w9 ⟨rfl, hg9⟩
  go_wp2
  go_ret
  exact ⟨rfl, grown_trans hg1 (grown_trans hg2 (grown_trans hg3 (grown_trans hg4 (grown_trans hg5 (hg9)))))⟩

set_option maxHeartbeats 400000 in
theorem walk101 (a0 : Int) (a1 : Int) (w0 : (Lit.int .u32 a0).wf = true) (w1 : (Lit.int .u32 a1).wf = true) (w : World)
    (hb : a1 ≠ 0) (_hk0 : a1 % 32 = 0) (L1 : Hid (decide (sg a0 < sg a1) = false)) (L2 : Hid (decide (sg a1 < sg a0) = true)) (L3 : (a0 == a1) = false) :
    Calls Try.prog 11 #[.int .u32 a0, .int .u32 a1] w fun e w' => e = .returned (.bool true) ∧ Grown w w' := by
  obtain ⟨x0, x1⟩ := Am.wf_bd a0 w0
  obtain ⟨y0, y1⟩ := Am.wf_bd a1 w1
  obtain ⟨k, hk⟩ : ∃ k : Nat, a1 % 32 = (k : Int) := ⟨(a1 % 32).toNat, by omega⟩
  have k1 : k < 32 := by omega
  obtain ⟨m1, m2, m3, m4, m5, m6, m7⟩ := moved a0 k x0 x1 k1
  obtain ⟨f, hf⟩ : ∃ f, a0 % 2 ^ k = f := ⟨_, rfl⟩
  rw [hf] at m2 m3 m4 m5
  have M1 := Lib.hid m1
  have M2 := Lib.hid m2
  have KK : Hid (((k : Int) % 32).toNat = k) := Lib.hid (by omega)
  have A0 : Hid (((a0 + a1) % 4294967296 - a1) % 4294967296 = a0) := Lib.hid (by omega)
  clear m1 m2 hf
  have P1 : Hid ((2 : Int) ^ k = 2 ^ k) := Lib.hid rfl
  have k0 : k = 0 := by omega
  have f0 : (f == 0) = true := by rw [m5 k0]; rfl
  have kz : ((k : Int) == 0) = true := by rw [k0]; rfl
  clear k0 _hk0
  clear m5
  have hb0 : (a1 != 0) = true := by simpa using hb
  have e1 := again_s a0 a1 x0 x1 y0 y1 hb
  obtain ⟨e2, e3⟩ := again_p a0 a1 x0 x1 y0 y1 hb
  obtain ⟨d1, hd1⟩ : ∃ d1, divS a0 a1 = d1 := ⟨_, rfl⟩
  obtain ⟨d2, hd2⟩ : ∃ d2, divP a0 a1 = d2 := ⟨_, rfl⟩
  obtain ⟨r1, hr1⟩ : ∃ r1, remS a0 a1 = r1 := ⟨_, rfl⟩
  obtain ⟨r2, hr2⟩ : ∃ r2, remP a0 a1 = r2 := ⟨_, rfl⟩
  rw [hd1, hr1] at e1
  rw [hd2, hr2] at e2
  rw [hr2] at e3
  have E1 := Lib.hid e1
  have E2 := Lib.hid e2
  have D1 := Lib.hid hd1
  have D2 := Lib.hid hd2
  have R1 := Lib.hid hr1
  have R2 := Lib.hid hr2
  clear e1 e2 hd1 hd2 hr1 hr2 hb
  go_enter Try.func11, Try.ntmps11
  go_wp2_with fail
  refine (div_c _ _ (by assumption) (by assumption) (by assumption) (by assumption) _).mono ?_; rintro e w1 ⟨rfl, hg1⟩
  rw [D1.out]
  go_wp2_with fail
  refine (mul_c _ _ _).mono ?_; rintro e w' ⟨rfl, rfl⟩
  go_wp2_with fail
  refine (rem_c _ _ (by assumption) (by assumption) (by assumption) (by assumption) _).mono ?_; rintro e w2 ⟨rfl, hg2⟩
  rw [R1.out]
  go_wp2_with fail
  refine (add_c _ _ _).mono ?_; rintro e w' ⟨rfl, rfl⟩
  rw [E1.out]
  go_wp2_with fail
  refine (divu_c _ _ (by assumption) (by assumption) (by assumption) (by assumption) _).mono ?_; rintro e w3 ⟨rfl, hg3⟩
  rw [D2.out]
  go_wp2_with fail
  refine (mul_c _ _ _).mono ?_; rintro e w' ⟨rfl, rfl⟩
  go_wp2_with fail
  refine (remu_c _ _ (by assumption) (by assumption) (by assumption) (by assumption) _).mono ?_; rintro e w4 ⟨rfl, hg4⟩
  rw [R2.out]
  go_wp2_with fail
  refine (add_c _ _ _).mono ?_; rintro e w' ⟨rfl, rfl⟩
  rw [E2.out]
  go_wp2_with fail
  refine (remu_c _ _ (by assumption) (by assumption) (by assumption) (by assumption) _).mono ?_; rintro e w5 ⟨rfl, hg5⟩
  rw [R2.out]
  go_wp2_with fail
  refine (shr_c _ _ (by omega) (by omega) _).mono ?_; rintro e w' ⟨rfl, rfl⟩
  rw [KK.out]
  go_wp2_with fail
  refine (shl_c _ _ (by omega) (by omega) _).mono ?_; rintro e w' ⟨rfl, rfl⟩
  rw [KK.out, M1.out]
  go_wp2_with fail
  refine (sub_c _ _ _).mono ?_; rintro e w' ⟨rfl, rfl⟩
  rw [M2.out]
  go_wp2_with fail
  refine (less_c _ _ (by assumption) (by assumption) (by assumption) (by assumption) _).mono ?_; rintro e w' ⟨rfl, rfl⟩
  rw [L1.out]
  go_wp2_with fail
  refine (less_c _ _ (by assumption) (by assumption) (by assumption) (by assumption) _).mono ?_; rintro e w' ⟨rfl, rfl⟩
  rw [L2.out]
  go_wp2_with fail
  refine (add_c _ _ _).mono ?_; rintro e w' ⟨rfl, rfl⟩
  go_wp2_with fail
  refine (sub_c _ _ _).mono ?_; rintro e w' ⟨rfl, rfl⟩
  rw [A0.out]
  go_wp2_with fail
  refine (works_c _).mono ?_; rintro e w9 ⟨rfl, hg9⟩
  go_wp2
  go_ret
  exact ⟨rfl, grown_trans hg1 (grown_trans hg2 (grown_trans hg3 (grown_trans hg4 (grown_trans hg5 (hg9)))))⟩

set_option maxHeartbeats 400000 in
theorem walk102 (a0 : Int) (a1 : Int) (w0 : (Lit.int .u32 a0).wf = true) (w1 : (Lit.int .u32 a1).wf = true) (w : World)
    (hb : a1 ≠ 0) (_hk0 : a1 % 32 = 0) (L1 : Hid (decide (sg a0 < sg a1) = false)) (L2 : Hid (decide (sg a1 < sg a0) = false)) (L3 : (a0 == a1) = true) :
    Calls Try.prog 11 #[.int .u32 a0, .int .u32 a1] w fun e w' => e = .returned (.bool true) ∧ Grown w w' := by
  obtain ⟨x0, x1⟩ := Am.wf_bd a0 w0
  obtain ⟨y0, y1⟩ := Am.wf_bd a1 w1
  obtain ⟨k, hk⟩ : ∃ k : Nat, a1 % 32 = (k : Int) := ⟨(a1 % 32).toNat, by omega⟩
  have k1 : k < 32 := by omega
  obtain ⟨m1, m2, m3, m4, m5, m6, m7⟩ := moved a0 k x0 x1 k1
  obtain ⟨f, hf⟩ : ∃ f, a0 % 2 ^ k = f := ⟨_, rfl⟩
  rw [hf] at m2 m3 m4 m5
  have M1 := Lib.hid m1
  have M2 := Lib.hid m2
  have KK : Hid (((k : Int) % 32).toNat = k) := Lib.hid (by omega)
  have A0 : Hid (((a0 + a1) % 4294967296 - a1) % 4294967296 = a0) := Lib.hid (by omega)
  clear m1 m2 hf
  have P1 : Hid ((2 : Int) ^ k = 2 ^ k) := Lib.hid rfl
  have k0 : k = 0 := by omega
  have f0 : (f == 0) = true := by rw [m5 k0]; rfl
  have kz : ((k : Int) == 0) = true := by rw [k0]; rfl
  clear k0 _hk0
  clear m5
  have hb0 : (a1 != 0) = true := by simpa using hb
  have e1 := again_s a0 a1 x0 x1 y0 y1 hb
  obtain ⟨e2, e3⟩ := again_p a0 a1 x0 x1 y0 y1 hb
  obtain ⟨d1, hd1⟩ : ∃ d1, divS a0 a1 = d1 := ⟨_, rfl⟩
  obtain ⟨d2, hd2⟩ : ∃ d2, divP a0 a1 = d2 := ⟨_, rfl⟩
  obtain ⟨r1, hr1⟩ : ∃ r1, remS a0 a1 = r1 := ⟨_, rfl⟩
  obtain ⟨r2, hr2⟩ : ∃ r2, remP a0 a1 = r2 := ⟨_, rfl⟩
  rw [hd1, hr1] at e1
  rw [hd2, hr2] at e2
  rw [hr2] at e3
  have E1 := Lib.hid e1
  have E2 := Lib.hid e2
  have D1 := Lib.hid hd1
  have D2 := Lib.hid hd2
  have R1 := Lib.hid hr1
  have R2 := Lib.hid hr2
  clear e1 e2 hd1 hd2 hr1 hr2 hb
  go_enter Try.func11, Try.ntmps11
  go_wp2_with fail
  refine (div_c _ _ (by assumption) (by assumption) (by assumption) (by assumption) _).mono ?_; rintro e w1 ⟨rfl, hg1⟩
  rw [D1.out]
  go_wp2_with fail
  refine (mul_c _ _ _).mono ?_; rintro e w' ⟨rfl, rfl⟩
  go_wp2_with fail
  refine (rem_c _ _ (by assumption) (by assumption) (by assumption) (by assumption) _).mono ?_; rintro e w2 ⟨rfl, hg2⟩
  rw [R1.out]
  go_wp2_with fail
  refine (add_c _ _ _).mono ?_; rintro e w' ⟨rfl, rfl⟩
  rw [E1.out]
  go_wp2_with fail
  refine (divu_c _ _ (by assumption) (by assumption) (by assumption) (by assumption) _).mono ?_; rintro e w3 ⟨rfl, hg3⟩
  rw [D2.out]
  go_wp2_with fail
  refine (mul_c _ _ _).mono ?_; rintro e w' ⟨rfl, rfl⟩
  go_wp2_with fail
  refine (remu_c _ _ (by assumption) (by assumption) (by assumption) (by assumption) _).mono ?_; rintro e w4 ⟨rfl, hg4⟩
  rw [R2.out]
  go_wp2_with fail
  refine (add_c _ _ _).mono ?_; rintro e w' ⟨rfl, rfl⟩
  rw [E2.out]
  go_wp2_with fail
  refine (remu_c _ _ (by assumption) (by assumption) (by assumption) (by assumption) _).mono ?_; rintro e w5 ⟨rfl, hg5⟩
  rw [R2.out]
  go_wp2_with fail
  refine (shr_c _ _ (by omega) (by omega) _).mono ?_; rintro e w' ⟨rfl, rfl⟩
  rw [KK.out]
  go_wp2_with fail
  refine (shl_c _ _ (by omega) (by omega) _).mono ?_; rintro e w' ⟨rfl, rfl⟩
  rw [KK.out, M1.out]
  go_wp2_with fail
  refine (sub_c _ _ _).mono ?_; rintro e w' ⟨rfl, rfl⟩
  rw [M2.out]
  go_wp2_with fail
  refine (less_c _ _ (by assumption) (by assumption) (by assumption) (by assumption) _).mono ?_; rintro e w' ⟨rfl, rfl⟩
  rw [L1.out]
  go_wp2_with fail
  refine (less_c _ _ (by assumption) (by assumption) (by assumption) (by assumption) _).mono ?_; rintro e w' ⟨rfl, rfl⟩
  rw [L2.out]
  go_wp2_with fail
  refine (add_c _ _ _).mono ?_; rintro e w' ⟨rfl, rfl⟩
  go_wp2_with fail
  refine (sub_c _ _ _).mono ?_; rintro e w' ⟨rfl, rfl⟩
  rw [A0.out]
  go_wp2_with fail
  refine (works_c _).mono ?_; rintro e w9 ⟨rfl, hg9⟩
  go_wp2
  go_ret
  exact ⟨rfl, grown_trans hg1 (grown_trans hg2 (grown_trans hg3 (grown_trans hg4 (grown_trans hg5 (hg9)))))⟩

set_option maxHeartbeats 400000 in
theorem walk110 (a0 : Int) (a1 : Int) (w0 : (Lit.int .u32 a0).wf = true) (w1 : (Lit.int .u32 a1).wf = true) (w : World)
    (hb : a1 ≠ 0) (hk0 : 0 < a1 % 32) (L1 : Hid (decide (sg a0 < sg a1) = true)) (L2 : Hid (decide (sg a1 < sg a0) = false)) (L3 : (a0 == a1) = false) :
    Calls Try.prog 11 #[.int .u32 a0, .int .u32 a1] w fun e w' => e = .returned (.bool true) ∧ Grown w w' := by
  obtain ⟨x0, x1⟩ := Am.wf_bd a0 w0
  obtain ⟨y0, y1⟩ := Am.wf_bd a1 w1
  obtain ⟨k, hk⟩ : ∃ k : Nat, a1 % 32 = (k : Int) := ⟨(a1 % 32).toNat, by omega⟩
  have k1 : k < 32 := by omega
  obtain ⟨m1, m2, m3, m4, m5, m6, m7⟩ := moved a0 k x0 x1 k1
  obtain ⟨f, hf⟩ : ∃ f, a0 % 2 ^ k = f := ⟨_, rfl⟩
  rw [hf] at m2 m3 m4 m5
  have M1 := Lib.hid m1
  have M2 := Lib.hid m2
  have KK : Hid (((k : Int) % 32).toNat = k) := Lib.hid (by omega)
  have A0 : Hid (((a0 + a1) % 4294967296 - a1) % 4294967296 = a0) := Lib.hid (by omega)
  clear m1 m2 hf
  have P1 : Hid ((2 : Int) ^ k = 2 ^ k) := Lib.hid rfl
  have kp : 0 < k := by omega
  have kp2 : ((k : Int) == 0) = false := by have : (k : Int) ≠ 0 := by omega
                                            simpa using this
  clear m5
  have hb0 : (a1 != 0) = true := by simpa using hb
  have e1 := again_s a0 a1 x0 x1 y0 y1 hb
  obtain ⟨e2, e3⟩ := again_p a0 a1 x0 x1 y0 y1 hb
  obtain ⟨d1, hd1⟩ : ∃ d1, divS a0 a1 = d1 := ⟨_, rfl⟩
  obtain ⟨d2, hd2⟩ : ∃ d2, divP a0 a1 = d2 := ⟨_, rfl⟩
  obtain ⟨r1, hr1⟩ : ∃ r1, remS a0 a1 = r1 := ⟨_, rfl⟩
  obtain ⟨r2, hr2⟩ : ∃ r2, remP a0 a1 = r2 := ⟨_, rfl⟩
  rw [hd1, hr1] at e1
  rw [hd2, hr2] at e2
  rw [hr2] at e3
  have E1 := Lib.hid e1
  have E2 := Lib.hid e2
  have D1 := Lib.hid hd1
  have D2 := Lib.hid hd2
  have R1 := Lib.hid hr1
  have R2 := Lib.hid hr2
  clear e1 e2 hd1 hd2 hr1 hr2 hb
  go_enter Try.func11, Try.ntmps11
  go_wp2_with fail
  refine (div_c _ _ (by assumption) (by assumption) (by assumption) (by assumption) _).mono ?_; rintro e w1 ⟨rfl, hg1⟩
  rw [D1.out]
  go_wp2_with fail
  refine (mul_c _ _ _).mono ?_; rintro e w' ⟨rfl, rfl⟩
  go_wp2_with fail
  refine (rem_c _ _ (by assumption) (by assumption) (by assumption) (by assumption) _).mono ?_; rintro e w2 ⟨rfl, hg2⟩
  rw [R1.out]
  go_wp2_with fail
  refine (add_c _ _ _).mono ?_; rintro e w' ⟨rfl, rfl⟩
  rw [E1.out]
  go_wp2_with fail
  refine (divu_c _ _ (by assumption) (by assumption) (by assumption) (by assumption) _).mono ?_; rintro e w3 ⟨rfl, hg3⟩
  rw [D2.out]
  go_wp2_with fail
  refine (mul_c _ _ _).mono ?_; rintro e w' ⟨rfl, rfl⟩
  go_wp2_with fail
  refine (remu_c _ _ (by assumption) (by assumption) (by assumption) (by assumption) _).mono ?_; rintro e w4 ⟨rfl, hg4⟩
  rw [R2.out]
  go_wp2_with fail
  refine (add_c _ _ _).mono ?_; rintro e w' ⟨rfl, rfl⟩
  rw [E2.out]
  go_wp2_with fail
  refine (remu_c _ _ (by assumption) (by assumption) (by assumption) (by assumption) _).mono ?_; rintro e w5 ⟨rfl, hg5⟩
  rw [R2.out]
  go_wp2_with fail
  refine (shr_c _ _ (by omega) (by omega) _).mono ?_; rintro e w' ⟨rfl, rfl⟩
  rw [KK.out]
  go_wp2_with fail
  refine (shl_c _ _ (by omega) (by omega) _).mono ?_; rintro e w' ⟨rfl, rfl⟩
  rw [KK.out, M1.out]
  go_wp2_with fail
  refine (sub_c _ _ _).mono ?_; rintro e w' ⟨rfl, rfl⟩
  rw [M2.out]
  go_wp2_with fail
  refine (less_c _ _ (by assumption) (by assumption) (by assumption) (by assumption) _).mono ?_; rintro e w' ⟨rfl, rfl⟩
  rw [L1.out]
  go_wp2_with fail
  refine (less_c _ _ (by assumption) (by assumption) (by assumption) (by assumption) _).mono ?_; rintro e w' ⟨rfl, rfl⟩
  rw [L2.out]
  go_wp2_with fail
  refine (add_c _ _ _).mono ?_; rintro e w' ⟨rfl, rfl⟩
  go_wp2_with fail
  refine (sub_c _ _ _).mono ?_; rintro e w' ⟨rfl, rfl⟩
  rw [A0.out]
  go_wp2_with fail
  refine (works_c _).mono ?_; rintro e w9 ⟨rfl, hg9⟩
  go_wp2
  go_ret
  exact ⟨rfl, grown_trans hg1 (grown_trans hg2 (grown_trans hg3 (grown_trans hg4 (grown_trans hg5 (hg9)))))⟩

set_option maxHeartbeats 400000 in
theorem walk111 (a0 : Int) (a1 : Int) (w0 : (Lit.int .u32 a0).wf = true) (w1 : (Lit.int .u32 a1).wf = true) (w : World)
    (hb : a1 ≠ 0) (hk0 : 0 < a1 % 32) (L1 : Hid (decide (sg a0 < sg a1) = false)) (L2 : Hid (decide (sg a1 < sg a0) = true)) (L3 : (a0 == a1) = false) :
    Calls Try.prog 11 #[.int .u32 a0, .int .u32 a1] w fun e w' => e = .returned (.bool true) ∧ Grown w w' := by
  obtain ⟨x0, x1⟩ := Am.wf_bd a0 w0
  obtain ⟨y0, y1⟩ := Am.wf_bd a1 w1
  obtain ⟨k, hk⟩ : ∃ k : Nat, a1 % 32 = (k : Int) := ⟨(a1 % 32).toNat, by omega⟩
  have k1 : k < 32 := by omega
  obtain ⟨m1, m2, m3, m4, m5, m6, m7⟩ := moved a0 k x0 x1 k1
  obtain ⟨f, hf⟩ : ∃ f, a0 % 2 ^ k = f := ⟨_, rfl⟩
  rw [hf] at m2 m3 m4 m5
  have M1 := Lib.hid m1
  have M2 := Lib.hid m2
  have KK : Hid (((k : Int) % 32).toNat = k) := Lib.hid (by omega)
  have A0 : Hid (((a0 + a1) % 4294967296 - a1) % 4294967296 = a0) := Lib.hid (by omega)
  clear m1 m2 hf
  have P1 : Hid ((2 : Int) ^ k = 2 ^ k) := Lib.hid rfl
  have kp : 0 < k := by omega
  have kp2 : ((k : Int) == 0) = false := by have : (k : Int) ≠ 0 := by omega
                                            simpa using this
  clear m5
  have hb0 : (a1 != 0) = true := by simpa using hb
  have e1 := again_s a0 a1 x0 x1 y0 y1 hb
  obtain ⟨e2, e3⟩ := again_p a0 a1 x0 x1 y0 y1 hb
  obtain ⟨d1, hd1⟩ : ∃ d1, divS a0 a1 = d1 := ⟨_, rfl⟩
  obtain ⟨d2, hd2⟩ : ∃ d2, divP a0 a1 = d2 := ⟨_, rfl⟩
  obtain ⟨r1, hr1⟩ : ∃ r1, remS a0 a1 = r1 := ⟨_, rfl⟩
  obtain ⟨r2, hr2⟩ : ∃ r2, remP a0 a1 = r2 := ⟨_, rfl⟩
  rw [hd1, hr1] at e1
  rw [hd2, hr2] at e2
  rw [hr2] at e3
  have E1 := Lib.hid e1
  have E2 := Lib.hid e2
  have D1 := Lib.hid hd1
  have D2 := Lib.hid hd2
  have R1 := Lib.hid hr1
  have R2 := Lib.hid hr2
  clear e1 e2 hd1 hd2 hr1 hr2 hb
  go_enter Try.func11, Try.ntmps11
  go_wp2_with fail
  refine (div_c _ _ (by assumption) (by assumption) (by assumption) (by assumption) _).mono ?_; rintro e w1 ⟨rfl, hg1⟩
  rw [D1.out]
  go_wp2_with fail
  refine (mul_c _ _ _).mono ?_; rintro e w' ⟨rfl, rfl⟩
  go_wp2_with fail
  refine (rem_c _ _ (by assumption) (by assumption) (by assumption) (by assumption) _).mono ?_; rintro e w2 ⟨rfl, hg2⟩
  rw [R1.out]
  go_wp2_with fail
  refine (add_c _ _ _).mono ?_; rintro e w' ⟨rfl, rfl⟩
  rw [E1.out]
  go_wp2_with fail
  refine (divu_c _ _ (by assumption) (by assumption) (by assumption) (by assumption) _).mono ?_; rintro e w3 ⟨rfl, hg3⟩
  rw [D2.out]
  go_wp2_with fail
  refine (mul_c _ _ _).mono ?_; rintro e w' ⟨rfl, rfl⟩
  go_wp2_with fail
  refine (remu_c _ _ (by assumption) (by assumption) (by assumption) (by assumption) _).mono ?_; rintro e w4 ⟨rfl, hg4⟩
  rw [R2.out]
  go_wp2_with fail
  refine (add_c _ _ _).mono ?_; rintro e w' ⟨rfl, rfl⟩
  rw [E2.out]
  go_wp2_with fail
  refine (remu_c _ _ (by assumption) (by assumption) (by assumption) (by assumption) _).mono ?_; rintro e w5 ⟨rfl, hg5⟩
  rw [R2.out]
  go_wp2_with fail
  refine (shr_c _ _ (by omega) (by omega) _).mono ?_; rintro e w' ⟨rfl, rfl⟩
  rw [KK.out]
  go_wp2_with fail
  refine (shl_c _ _ (by omega) (by omega) _).mono ?_; rintro e w' ⟨rfl, rfl⟩
  rw [KK.out, M1.out]
  go_wp2_with fail
  refine (sub_c _ _ _).mono ?_; rintro e w' ⟨rfl, rfl⟩
  rw [M2.out]
  go_wp2_with fail
  refine (less_c _ _ (by assumption) (by assumption) (by assumption) (by assumption) _).mono ?_; rintro e w' ⟨rfl, rfl⟩
  rw [L1.out]
  go_wp2_with fail
  refine (less_c _ _ (by assumption) (by assumption) (by assumption) (by assumption) _).mono ?_; rintro e w' ⟨rfl, rfl⟩
  rw [L2.out]
  go_wp2_with fail
  refine (add_c _ _ _).mono ?_; rintro e w' ⟨rfl, rfl⟩
  go_wp2_with fail
  refine (sub_c _ _ _).mono ?_; rintro e w' ⟨rfl, rfl⟩
  rw [A0.out]
  go_wp2_with fail
  refine (works_c _).mono ?_; rintro e w9 ⟨rfl, hg9⟩
  go_wp2
  go_ret
  exact ⟨rfl, grown_trans hg1 (grown_trans hg2 (grown_trans hg3 (grown_trans hg4 (grown_trans hg5 (hg9)))))⟩

set_option maxHeartbeats 400000 in
theorem walk112 (a0 : Int) (a1 : Int) (w0 : (Lit.int .u32 a0).wf = true) (w1 : (Lit.int .u32 a1).wf = true) (w : World)
    (hb : a1 ≠ 0) (hk0 : 0 < a1 % 32) (L1 : Hid (decide (sg a0 < sg a1) = false)) (L2 : Hid (decide (sg a1 < sg a0) = false)) (L3 : (a0 == a1) = true) :
    Calls Try.prog 11 #[.int .u32 a0, .int .u32 a1] w fun e w' => e = .returned (.bool true) ∧ Grown w w' := by
  obtain ⟨x0, x1⟩ := Am.wf_bd a0 w0
  obtain ⟨y0, y1⟩ := Am.wf_bd a1 w1
  obtain ⟨k, hk⟩ : ∃ k : Nat, a1 % 32 = (k : Int) := ⟨(a1 % 32).toNat, by omega⟩
  have k1 : k < 32 := by omega
  obtain ⟨m1, m2, m3, m4, m5, m6, m7⟩ := moved a0 k x0 x1 k1
  obtain ⟨f, hf⟩ : ∃ f, a0 % 2 ^ k = f := ⟨_, rfl⟩
  rw [hf] at m2 m3 m4 m5
  have M1 := Lib.hid m1
  have M2 := Lib.hid m2
  have KK : Hid (((k : Int) % 32).toNat = k) := Lib.hid (by omega)
  have A0 : Hid (((a0 + a1) % 4294967296 - a1) % 4294967296 = a0) := Lib.hid (by omega)
  clear m1 m2 hf
  have P1 : Hid ((2 : Int) ^ k = 2 ^ k) := Lib.hid rfl
  have kp : 0 < k := by omega
  have kp2 : ((k : Int) == 0) = false := by have : (k : Int) ≠ 0 := by omega
                                            simpa using this
  clear m5
  have hb0 : (a1 != 0) = true := by simpa using hb
  have e1 := again_s a0 a1 x0 x1 y0 y1 hb
  obtain ⟨e2, e3⟩ := again_p a0 a1 x0 x1 y0 y1 hb
  obtain ⟨d1, hd1⟩ : ∃ d1, divS a0 a1 = d1 := ⟨_, rfl⟩
  obtain ⟨d2, hd2⟩ : ∃ d2, divP a0 a1 = d2 := ⟨_, rfl⟩
  obtain ⟨r1, hr1⟩ : ∃ r1, remS a0 a1 = r1 := ⟨_, rfl⟩
  obtain ⟨r2, hr2⟩ : ∃ r2, remP a0 a1 = r2 := ⟨_, rfl⟩
  rw [hd1, hr1] at e1
  rw [hd2, hr2] at e2
  rw [hr2] at e3
  have E1 := Lib.hid e1
  have E2 := Lib.hid e2
  have D1 := Lib.hid hd1
  have D2 := Lib.hid hd2
  have R1 := Lib.hid hr1
  have R2 := Lib.hid hr2
  clear e1 e2 hd1 hd2 hr1 hr2 hb
  go_enter Try.func11, Try.ntmps11
  go_wp2_with fail
  refine (div_c _ _ (by assumption) (by assumption) (by assumption) (by assumption) _).mono ?_; rintro e w1 ⟨rfl, hg1⟩
  rw [D1.out]
  go_wp2_with fail
  refine (mul_c _ _ _).mono ?_; rintro e w' ⟨rfl, rfl⟩
  go_wp2_with fail
  refine (rem_c _ _ (by assumption) (by assumption) (by assumption) (by assumption) _).mono ?_; rintro e w2 ⟨rfl, hg2⟩
  rw [R1.out]
  go_wp2_with fail
  refine (add_c _ _ _).mono ?_; rintro e w' ⟨rfl, rfl⟩
  rw [E1.out]
  go_wp2_with fail
  refine (divu_c _ _ (by assumption) (by assumption) (by assumption) (by assumption) _).mono ?_; rintro e w3 ⟨rfl, hg3⟩
  rw [D2.out]
  go_wp2_with fail
  refine (mul_c _ _ _).mono ?_; rintro e w' ⟨rfl, rfl⟩
  go_wp2_with fail
  refine (remu_c _ _ (by assumption) (by assumption) (by assumption) (by assumption) _).mono ?_; rintro e w4 ⟨rfl, hg4⟩
  rw [R2.out]
  go_wp2_with fail
  refine (add_c _ _ _).mono ?_; rintro e w' ⟨rfl, rfl⟩
  rw [E2.out]
  go_wp2_with fail
  refine (remu_c _ _ (by assumption) (by assumption) (by assumption) (by assumption) _).mono ?_; rintro e w5 ⟨rfl, hg5⟩
  rw [R2.out]
  go_wp2_with fail
  refine (shr_c _ _ (by omega) (by omega) _).mono ?_; rintro e w' ⟨rfl, rfl⟩
  rw [KK.out]
  go_wp2_with fail
  refine (shl_c _ _ (by omega) (by omega) _).mono ?_; rintro e w' ⟨rfl, rfl⟩
  rw [KK.out, M1.out]
  go_wp2_with fail
  refine (sub_c _ _ _).mono ?_; rintro e w' ⟨rfl, rfl⟩
  rw [M2.out]
  go_wp2_with fail
  refine (less_c _ _ (by assumption) (by assumption) (by assumption) (by assumption) _).mono ?_; rintro e w' ⟨rfl, rfl⟩
  rw [L1.out]
  go_wp2_with fail
  refine (less_c _ _ (by assumption) (by assumption) (by assumption) (by assumption) _).mono ?_; rintro e w' ⟨rfl, rfl⟩
  rw [L2.out]
  go_wp2_with fail
  refine (add_c _ _ _).mono ?_; rintro e w' ⟨rfl, rfl⟩
  go_wp2_with fail
  refine (sub_c _ _ _).mono ?_; rintro e w' ⟨rfl, rfl⟩
  rw [A0.out]
  go_wp2_with fail
  refine (works_c _).mono ?_; rintro e w9 ⟨rfl, hg9⟩
  go_wp2
  go_ret
  exact ⟨rfl, grown_trans hg1 (grown_trans hg2 (grown_trans hg3 (grown_trans hg4 (grown_trans hg5 (hg9)))))⟩

end Go.Proofs.Ythlildlfppdldaa
