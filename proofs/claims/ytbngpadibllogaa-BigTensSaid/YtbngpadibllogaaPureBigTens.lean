/- BigTens, the plain law: a power of ten is ten of the one ahead. No condition. -/
import Derived.Test.YtbngpadibllogaaPBigx7
import Derived.Test.YtbngpadibllogaaBigDiv
namespace Go.Proofs.Ytbngpadibllogaa.Pure
open Go.RowKit Go.Proofs.Ytbngpadibllogaa.PBig Go.Proofs.YtbngpadibllogaaW.PrintWords Go.Proofs.YtbngpadibllogaaW.PrintLast Go.Proofs.YtbngpadibllogaaW.PrintMore Go.Proofs.Ytbngpadibllogaa.Aid Go.Proofs.Ytbngpadibllogaa.Big

theorem tens_begun : assayerlaw3_begun.f 20000 = some true := by kernel_rfl
set_option exponentiation.threshold 2000 in
theorem ten_len (m : Nat) (h : m ≤ 400) : (limbs (10 ^ m)).length ≤ 60 := by
  apply limbs_len_le.mpr
  have h1 : 10 ^ m ≤ (2 ^ 4) ^ m := Nat.pow_le_pow_left (by decide) m
  have h2 : (2 : Nat) ^ (4 * m) < 2 ^ (32 * 60) := Nat.pow_lt_pow_right (by decide) (by omega)
  rw [← Nat.pow_mul] at h1
  rw [pow32]
  exact Nat.lt_of_le_of_lt h1 h2
theorem ten_bits (m : Nat) : 3 * m < nb (10 ^ m) := by
  apply lt_nb.mpr
  have h1 : (2 ^ 3) ^ m ≤ 10 ^ m := Nat.pow_le_pow_left (by decide) m
  rwa [← Nat.pow_mul] at h1
theorem BigTens : assayerlaw3_BigTens.Pure := by
  intro a0 hw
  have hb := wf_u16 hw
  obtain ⟨a, rfl⟩ := Int.eq_ofNat_of_zero_le hb.1
  have ha : a ≤ 65535 := by omega
  refine ⟨20000, ?_⟩
  have ht : Int.tmod (a : Int) 400 = ((a % 400 : Nat) : Int) := by rw [Int.tmod_eq_emod_of_nonneg (by omega)]; omega
  have hm : a % 400 < 400 := by omega
  rw [assayerlaw3_BigTens.f, tens_begun, Option.bind_some, if_pos rfl, ht, w64 (x := ((a % 400 : Nat) : Int)) (by omega) (by omega)]
  generalize a % 400 = m at *
  have l0 := ten_len m (by omega)
  have l1 := ten_len (m + 1) (by omega)
  have l10 : (limbs 10).length ≤ 1 := limbs_len_le.mpr (by decide)
  have l11 : (limbs 1).length ≤ 1 := limbs_len_le.mpr (by decide)
  have lm : (limbs (10 ^ m * 10)).length ≤ 60 := by rw [← Nat.pow_succ]; exact l1
  have tb := ten_bits m
  have tl : nb (10 ^ m) ≤ 32 * 60 := nb_le.mpr (by have := limbs_len_le.mp l0; rwa [pow32] at this)
  rw [w64 (by omega) (by omega), show (m : Int) + 1 = ((m + 1 : Nat) : Int) by omega, ten_ok (m + 1) (by omega) 20000 (by omega), Option.bind_some, ten_ok m (by omega) 20000 (by omega), Option.bind_some]
  rw [of_ok 10 (by decide) (by decide) 20000 (by omega), Option.bind_some, show (10 : Int).toNat = 10 by decide, mul_ok _ _ (U_limbs _) (U_limbs _) (by omega) (by omega) 20000 (by omega), Option.bind_some, val_limbs, val_limbs]
  rw [cmp_ok _ _ (U_limbs _) (U_limbs _) (by omega) (by omega) 20000 (by omega) (by omega), Option.bind_some, val_limbs, val_limbs, Nat.pow_succ, cmp_eq, if_pos rfl]
  rw [show big_Ten.f 20000 0 = some (limbs (10 ^ 0)) from ten_ok 0 (by omega) 20000 (by omega), Option.bind_some, of_ok 1 (by decide) (by decide) 20000 (by omega), Option.bind_some, show (1 : Int).toNat = 1 by decide, Nat.pow_zero]
  rw [cmp_ok _ _ (U_limbs _) (U_limbs _) (by omega) (by omega) 20000 (by omega) (by omega), Option.bind_some, val_limbs, cmp_eq, if_pos rfl]
  rw [ten_neg (-1) (by decide) 20000 (by omega), Option.bind_some, if_pos (by simp)]
  rw [Option.bind_some, bits_ok _ (U_limbs _) (by omega) 20000 (by omega), Option.bind_some, val_limbs, w64 (by omega) (by omega)]
  congr 1
  rw [decide_eq_true_eq]
  omega
end Go.Proofs.Ytbngpadibllogaa.Pure
