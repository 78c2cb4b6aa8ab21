/- BigSmall, the plain law: numbers below 2^32 are the language's own. No condition. -/
import Derived.Test.YtbngpadibllogaaPBigx8
import Derived.Test.YtbngpadibllogaaBigDiv
namespace Go.Proofs.Ytbngpadibllogaa.Pure
open Go.RowKit Go.Proofs.Ytbngpadibllogaa.PBig Go.Proofs.YtbngpadibllogaaW.PrintWords Go.Proofs.YtbngpadibllogaaW.PrintLast Go.Proofs.YtbngpadibllogaaW.PrintMore Go.Proofs.Ytbngpadibllogaa.Aid Go.Proofs.Ytbngpadibllogaa.Big

theorem small_begun : assayerlaw3_begun.f 20003 = some true := by kernel_rfl
theorem down_ (v n : Nat) : shN v (-(n : Int)) = v / 2 ^ n := by
  unfold shN
  by_cases h : n = 0
  · subst h; rw [if_neg (by decide)]; simp
  · rw [if_pos (by omega), show (- -(n : Int)).toNat = n by omega]
theorem up_ (v n : Nat) : shN v (n : Int) = v * 2 ^ n := by
  unfold shN
  rw [if_neg (by omega), Int.toNat_natCast]
theorem small_div (m n k : Nat) (hm : m < 4294967296) (hn : n < 4294967296) (hk : 20000 < k) : assayerlaw3_BigSmall.j1 (k + 1) (m : Int) (n : Int) false = some true := by
  have lm : (limbs m).length ≤ 1 := limbs_len_le.mpr (by omega)
  have ln : (limbs n).length ≤ 1 := limbs_len_le.mpr (by omega)
  simp only [assayerlaw3_BigSmall.j1]
  rw [if_neg (by decide), of_ok _ (by omega) (by omega) k (by omega), Option.bind_some, of_ok _ (by omega) (by omega) k (by omega), Option.bind_some, Int.toNat_natCast, Int.toNat_natCast, div_ok _ _ (U_limbs _) (U_limbs _) (by omega) (by omega) k (by omega), Option.bind_some, val_limbs, val_limbs]
  by_cases c : n = 0
  · subst c
    rw [if_pos rfl]
    dsimp only
    rw [if_pos (by decide), if_neg (by decide)]
  · have hd : m / n ≤ m := Nat.div_le_self _ _
    have hr : m % n < n := Nat.mod_lt _ (by omega)
    rw [if_neg c]
    dsimp only
    have hne : ((n : Int) != 0) = true := by rw [bne_iff_ne]; omega
    rw [hne, if_pos (by decide), if_pos rfl, low_ok _ (U_limbs _) k (by omega), Option.bind_some, val_limbs, if_neg (by omega), Int.tdiv_eq_ediv_of_nonneg (by omega), ← Int.natCast_ediv]
    rw [wraps_u64 _ (by exact Int.natCast_nonneg _) (by have := (Int.ofNat_le (m := m / n) (n := m)).mpr hd; omega), Nat.mod_eq_of_lt (by omega), if_pos rfl, low_ok _ (U_limbs _) k (by omega), Option.bind_some, val_limbs, Nat.mod_eq_of_lt (by omega), Int.tmod_eq_emod_of_nonneg (by omega), ← Int.natCast_emod]
    congr 1
    exact beq_self_eq_true _
theorem small_sub (m n k : Nat) (hm : m < 4294967296) (hn : n < 4294967296) (hk : 20001 < k) : assayerlaw3_BigSmall.j0 (k + 1) (m : Int) (n : Int) false = some true := by
  have lm : (limbs m).length ≤ 1 := limbs_len_le.mpr (by omega)
  have ln : (limbs n).length ≤ 1 := limbs_len_le.mpr (by omega)
  obtain ⟨k, rfl⟩ : ∃ j, k = j + 1 := ⟨k - 1, by omega⟩
  have dv := small_div m n k hm hn (by omega)
  generalize hk1 : k + 1 = k1 at *
  simp only [assayerlaw3_BigSmall.j0]
  rw [if_neg (by decide), of_ok _ (by omega) (by omega) k1 (by omega), Option.bind_some, of_ok _ (by omega) (by omega) k1 (by omega), Option.bind_some, Int.toNat_natCast, Int.toNat_natCast, sub_ok _ _ (U_limbs _) (U_limbs _) (by omega) (by omega) k1 (by omega), Option.bind_some, val_limbs, val_limbs]
  by_cases c : m < n
  · rw [if_pos c, decide_eq_false (show ¬ (m : Int) ≥ (n : Int) by omega)]
    dsimp only
    rw [if_neg (by decide), if_neg (by decide)]
    exact dv
  · rw [if_neg c, decide_eq_true (show (m : Int) ≥ (n : Int) by omega)]
    dsimp only
    rw [if_neg (by decide), if_pos rfl, low_ok _ (U_limbs _) k1 (by omega), Option.bind_some, val_limbs, wraps_u64 _ (by omega) (by omega), show (((m - n) % 18446744073709551616 : Nat) : Int) = (m : Int) - (n : Int) by omega, bne_self_eq_false]
    exact dv
theorem BigSmall : assayerlaw3_BigSmall.Pure := by
  intro a0 a1 a2 h0 h1 h2
  have b0 := wf_u32 h0
  have b1 := wf_u32 h1
  have b2 := wf_u8 h2
  obtain ⟨m, rfl⟩ := Int.eq_ofNat_of_zero_le b0.1
  obtain ⟨n, rfl⟩ := Int.eq_ofNat_of_zero_le b1.1
  obtain ⟨s, rfl⟩ := Int.eq_ofNat_of_zero_le b2.1
  have hm : m < 4294967296 := by omega
  have hn : n < 4294967296 := by omega
  have hs : s ≤ 255 := by omega
  clear b0 b1 b2 h0 h1 h2
  refine ⟨20003, ?_⟩
  have ht : Int.tmod (s : Int) 33 = ((s % 33 : Nat) : Int) := by rw [Int.tmod_eq_emod_of_nonneg (by omega)]; omega
  have ht2 : s % 33 ≤ 32 := by omega
  have lm : (limbs m).length ≤ 1 := limbs_len_le.mpr (by omega)
  have ln : (limbs n).length ≤ 1 := limbs_len_le.mpr (by omega)
  have hmn : m * n < 4294967296 * 4294967296 := Nat.mul_lt_mul'' hm hn
  have end_ := small_sub m n 20002 hm hn (by omega)
  rw [assayerlaw3_BigSmall.f, small_begun, Option.bind_some, if_pos rfl, ht, w64 (x := ((s % 33 : Nat) : Int)) (by omega) (by omega)]
  generalize s % 33 = t at *
  have h2 : 2 ^ t ≤ 2 ^ 32 := Nat.pow_le_pow_right (by decide) ht2
  have hmt : m * 2 ^ t ≤ 4294967295 * 2 ^ 32 := Nat.mul_le_mul (by omega) h2
  rw [wraps_u64 (m : Int) (by omega) (by omega), wraps_u64 (n : Int) (by omega) (by omega)]
  have om := of_ok (m : Int) (by omega) (by omega) 20003 (by omega)
  have on := of_ok (n : Int) (by omega) (by omega) 20003 (by omega)
  rw [Int.toNat_natCast] at om on
  rw [om, Option.bind_some, on, Option.bind_some, add_ok _ _ (U_limbs _) (U_limbs _) (by omega) (by omega) 20003 (by omega), Option.bind_some, val_limbs, val_limbs, low_ok _ (U_limbs _) 20003 (by omega), Option.bind_some, val_limbs, wraps_u64 ((m : Int) + (n : Int)) (by omega) (by omega), if_pos (by omega)]
  have hc : (m : Int) * (n : Int) = ((m * n : Nat) : Int) := (Int.natCast_mul m n).symm
  rw [Option.bind_some, Option.bind_some, mul_ok _ _ (U_limbs _) (U_limbs _) (by omega) (by omega) 20003 (by omega), Option.bind_some, val_limbs, val_limbs, low_ok _ (U_limbs _) 20003 (by omega), Option.bind_some, val_limbs, hc]
  generalize m * n = p at *
  rw [wraps_u64 (p : Int) (by omega) (by omega), if_pos (by omega)]
  have e1 : shl .u64 (m : Int) (t : Int) = ((m * 2 ^ t : Nat) : Int) := by
    unfold shl
    rw [Int.toNat_natCast, Nat.min_eq_left (by simp only [IntKind.bits]; omega)]
    have e : (m : Int) * 2 ^ t = ((m * 2 ^ t : Nat) : Int) := by rw [Int.natCast_mul, Int.natCast_pow]; rfl
    rw [e, wraps_u64 _ (by omega) (by omega)]
  have e2 : shr .u64 (m : Int) (t : Int) = ((m / 2 ^ t : Nat) : Int) := by
    unfold shr
    rw [Int.toNat_natCast, Nat.min_eq_left (by simp only [IntKind.bits]; omega), Int.natCast_ediv, Int.natCast_pow]
    rfl
  have hd : m / 2 ^ t ≤ m := Nat.div_le_self _ _
  rw [Option.bind_some, shl_ok _ (U_limbs _) (by omega) (t : Int) (by omega) (by omega) 20003 (by omega), Option.bind_some, val_limbs, up_, low_ok _ (U_limbs _) 20003 (by omega), Option.bind_some, val_limbs, if_pos (by omega), e1]
  generalize m * 2 ^ t = u at *
  rw [if_pos (by omega), Option.bind_some, w64 (by omega) (by omega), shl_ok _ (U_limbs _) (by omega) (-(t : Int)) (by omega) (by omega) 20003 (by omega), Option.bind_some, val_limbs, down_, low_ok _ (U_limbs _) 20003 (by omega), Option.bind_some, val_limbs, e2]
  generalize m / 2 ^ t = v at *
  rw [Nat.mod_eq_of_lt (by omega), bne_self_eq_false]
  exact end_
end Go.Proofs.Ytbngpadibllogaa.Pure
