/- BigShifts, the plain law: to shift is to multiply and to divide by a power of two. No condition. -/
import Derived.Test.YtbngpadibllogaaPBigx7
import Derived.Test.YtbngpadibllogaaBigDiv
namespace Go.Proofs.Ytbngpadibllogaa.Pure
open Go.RowKit Go.Proofs.Ytbngpadibllogaa.PBig Go.Proofs.YtbngpadibllogaaW.PrintWords Go.Proofs.YtbngpadibllogaaW.PrintLast Go.Proofs.YtbngpadibllogaaW.PrintMore Go.Proofs.Ytbngpadibllogaa.Aid Go.Proofs.Ytbngpadibllogaa.Big

theorem shifts_begun : assayerlaw3_begun.f 20000 = some true := by kernel_rfl
theorem shN_down (v n : Nat) : shN v (-(n : Int)) = v / 2 ^ n := by
  unfold shN
  by_cases h : n = 0
  · subst h; rw [if_neg (by decide)]; simp
  · rw [if_pos (by omega), show (- -(n : Int)).toNat = n by omega]
theorem shN_up (v n : Nat) : shN v (n : Int) = v * 2 ^ n := by
  unfold shN
  rw [if_neg (by omega), Int.toNat_natCast]
theorem shifts_tail (X n k : Nat) (hX : X < 4294967296 ^ 8) (hn : n < 100) (hk : 20000 < k) (lu : (limbs (X * 2 ^ n)).length ≤ 12) (ld : (limbs (X / 2 ^ n)).length ≤ 8) :
    assayerlaw3_BigShifts.j1 (k + 1) (n : Int) (limbs (X * 2 ^ n)) (limbs (X / 2 ^ n)) (nb X : Int) false = some true := by
  have nX : nb X ≤ 256 := nb_le.mpr (by have h := hX; rw [pow32] at h; exact h)
  have nd := nb_div_pow X n
  have last : (if wrap64 ((nb X : Int) - (n : Int)) < 0 then (some (((nb (X / 2 ^ n) : Nat) : Int) == 0)) else some (((nb (X / 2 ^ n) : Nat) : Int) == wrap64 ((nb X : Int) - (n : Int)))) = some true := by
    rw [w64 (by omega) (by omega)]
    by_cases c : (nb X : Int) - (n : Int) < 0
    · rw [if_pos c]; congr 1; rw [beq_iff_eq]; omega
    · rw [if_neg c]; congr 1; rw [beq_iff_eq]; omega
  simp only [assayerlaw3_BigShifts.j1]
  rw [if_neg (by decide), bits_ok _ (U_limbs _) (by omega) k (by omega), Option.bind_some, val_limbs, bits_ok _ (U_limbs _) (by omega) k (by omega), Option.bind_some, val_limbs, last]
  by_cases c : X = 0
  · subst c
    rw [if_pos (by decide), if_pos (by rw [Nat.zero_mul]; decide)]
  · have h1 : nb X ≠ 0 := fun e => by
      have := nb_le.mp (Nat.le_of_eq e)
      rw [Nat.pow_zero] at this; omega
    have h2 := nb_mul_pow X n c
    rw [if_neg (by omega), w64 (by omega) (by omega), Option.bind_some, if_pos (by omega)]
theorem shifts_loop (x : List Int) (ux : U x) (lx : x.length ≤ 8) (n : Nat) (hn : n < 100) (d : Nat) : ∀ (i k : Nat), i + d = n → 21000 + d < k →
    assayerlaw3_BigShifts.l0 k x (n : Int) (limbs (2 ^ i)) (i : Int) = some true := by
  have vx : val x < 4294967296 ^ 8 := Nat.lt_of_lt_of_le (val_lt ux) (Nat.pow_le_pow_right (by decide) lx)
  have l2 : ∀ i, i ≤ 100 → (limbs (2 ^ i)).length ≤ 4 := fun i hi => limbs_len_le.mpr (by rw [pow32]; exact Nat.pow_lt_pow_right (by decide) (by omega))
  induction d with
  | zero =>
    intro i k hi hk
    obtain ⟨k, rfl⟩ : ∃ m, k = m + 1 := ⟨k - 1, by omega⟩
    obtain rfl : i = n := by omega
    have hp : 2 ^ i ≠ 0 := Nat.ne_of_gt (Nat.pow_pos (by decide))
    have v4 : 2 ^ i < 4294967296 ^ 4 := by rw [pow32]; exact Nat.pow_lt_pow_right (by decide) (by omega)
    have lu := len_mul vx v4
    have ld : (limbs (val x / 2 ^ i)).length ≤ 8 := limbs_len_le.mpr (Nat.lt_of_le_of_lt (Nat.div_le_self _ _) vx)
    have l4 := l2 i (by omega)
    have lx2 := limbs_len_val ux
    obtain ⟨k, rfl⟩ : ∃ m, k = m + 1 := ⟨k - 1, by omega⟩
    have tail := shifts_tail (val x) i k vx hn (by omega) lu ld
    generalize hk1 : k + 1 = k1 at *
    simp only [assayerlaw3_BigShifts.l0]
    rw [if_neg (by omega), shl_ok x ux (by omega) (i : Int) (by omega) (by omega) k1 (by omega), Option.bind_some, shN_up, w64 (x := -(i : Int)) (by omega) (by omega), shl_ok x ux (by omega) (-(i : Int)) (by omega) (by omega) k1 (by omega), Option.bind_some, shN_down]
    rw [div_ok x _ ux (U_limbs _) (by omega) (by omega) k1 (by omega), Option.bind_some, val_limbs, if_neg hp, bits_ok x ux (by omega) k1 (by omega), Option.bind_some]
    dsimp only
    rw [if_pos rfl, mul_ok x _ ux (U_limbs _) (by omega) (by omega) k1 (by omega), Option.bind_some, val_limbs, cmp_ok _ _ (U_limbs _) (U_limbs _) (by omega) (by omega) k1 (by omega) (by omega), Option.bind_some, val_limbs, cmp_eq, if_pos rfl]
    rw [cmp_ok _ _ (U_limbs _) (U_limbs _) (by omega) (by omega) k1 (by omega) (by omega), Option.bind_some, val_limbs, cmp_eq, if_pos rfl]
    rw [shl_ok _ (U_limbs _) (by omega) (-(i : Int)) (by omega) (by omega) k1 (by omega), Option.bind_some, val_limbs, shN_down, Nat.mul_div_cancel _ (Nat.pow_pos (by decide)), cmp_ok _ x (U_limbs _) ux (by omega) (by omega) k1 (by omega) (by omega), Option.bind_some, val_limbs, cmp_eq]
    exact tail
  | succ d ih =>
    intro i k hi hk
    obtain ⟨k, rfl⟩ : ∃ m, k = m + 1 := ⟨k - 1, by omega⟩
    have l4 := l2 i (by omega)
    simp only [assayerlaw3_BigShifts.l0]
    rw [if_pos (by omega), add_ok _ _ (U_limbs _) (U_limbs _) (by omega) (by omega) k (by omega), Option.bind_some, val_limbs, w64 (by omega) (by omega), show 2 ^ i + 2 ^ i = 2 ^ (i + 1) by rw [Nat.pow_succ]; omega]
    exact ih (i + 1) k (by omega) (by omega)
theorem shifts_begun2 : assayerlaw3_begun.f 22000 = some true := by kernel_rfl
theorem BigShifts : assayerlaw3_BigShifts.Pure := by
  intro x a0 _ _ hx hw
  have hb := wf_u8 hw
  obtain ⟨a, rfl⟩ := Int.eq_ofNat_of_zero_le hb.1
  have ht : Int.tmod (a : Int) 100 = ((a % 100 : Nat) : Int) := by rw [Int.tmod_eq_emod_of_nonneg (by omega)]; omega
  have ha : a ≤ 255 := by omega
  refine ⟨22000, ?_⟩
  rw [assayerlaw3_BigShifts.f, shifts_begun2, Option.bind_some, if_pos rfl]
  by_cases c : (x.length : Int) > 8
  · rw [if_pos c]
  · rw [if_neg c, of_ok 1 (by decide) (by decide) 22000 (by omega), Option.bind_some, show (1 : Int).toNat = 2 ^ 0 by decide, ht, w64 (by omega) (by omega)]
    exact shifts_loop x (U.of_wf hx) (by omega) (a % 100) (by omega) (a % 100) 0 22000 (by omega) (by omega)
end Go.Proofs.Ytbngpadibllogaa.Pure
