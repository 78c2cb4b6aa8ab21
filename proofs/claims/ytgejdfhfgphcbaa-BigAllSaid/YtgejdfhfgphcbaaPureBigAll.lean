/- BigAll, the plain law: the program's sums, products, differences, quotients, shifts are the document's. No condition. -/
import Derived.Test.YtgejdfhfgphcbaaBigRef2
import Derived.Test.YtgejdfhfgphcbaaPBigx10
namespace Go.Proofs.Ytgejdfhfgphcbaa.Pure
open Go.RowKit Go.Proofs.Ytgejdfhfgphcbaa.PBig Go.Proofs.YtgejdfhfgphcbaaW.PrintWords Go.Proofs.YtgejdfhfgphcbaaW.PrintLast Go.Proofs.YtgejdfhfgphcbaaW.PrintMore Go.Proofs.Ytgejdfhfgphcbaa.Aid Go.Proofs.Ytgejdfhfgphcbaa.Big

theorem all_begun : assayerlaw3_begun.f 40003 = some true := by kernel_rfl
theorem light_all (x y : List Int) (k : Nat) : assayerlaw3_light.f (k + 3) x y = some (if x.length > 12 then false else if y.length > 12 then false else true) := by
  unfold assayerlaw3_light.f assayerlaw3_lightG.f
  simp only [assayerlaw3_lightG.l0]
  rw [if_pos (by simp), if_pos (by decide), show rd_L1 [x, y] 0 = x from rfl]
  by_cases c1 : x.length > 12
  · rw [if_pos (by omega), if_pos c1]
  · rw [if_neg (by omega), if_neg c1, w64 (x := 0 + 1) (by decide) (by decide), show (0 : Int) + 1 = 1 from rfl, if_pos (by simp), if_pos (by decide), show rd_L1 [x, y] 1 = y from rfl]
    by_cases c2 : y.length > 12
    · rw [if_pos (by omega), if_pos c2]
    · rw [if_neg (by omega), if_neg c2, w64 (x := 1 + 1) (by decide) (by decide), show (1 : Int) + 1 = 2 from rfl, if_neg (by simp)]
theorem same_lim (n : Nat) (k : Nat) (h : n < 4294967296 ^ 200) (hk : 201 < k) : assayerref1_SameLimbs.f k (limbs n) (limbs n) = some true := by
  have := limbs_len_le.mpr h
  exact same_ok _ (by omega) k (by omega)
theorem small_pow (n m : Nat) (h : n < 4294967296 ^ m) (hm : m ≤ 200) : n < 4294967296 ^ 200 := Nat.lt_of_lt_of_le h (Nat.pow_le_pow_right (by decide) hm)
set_option exponentiation.threshold 2000 in
theorem all_main (x y : List Int) (n v : Int) (ux : U x) (uy : U y) (lx : x.length ≤ 12) (ly : y.length ≤ 12) (h0 : -500 ≤ n) (h1 : n ≤ 500) (v0 : 0 ≤ v) (v1 : v ≤ 18446744073709551615) : assayerlaw3_BigAll.j0 40003 x y n v false = some true := by
  have B : ∀ l : List Int, U l → l.length ≤ 12 → val l < 4294967296 ^ 12 := fun l u h => Nat.lt_of_lt_of_le (val_lt u) (Nat.pow_le_pow_right (by decide) h)
  have vx := B x ux lx
  have vy := B y uy ly
  have nil0 : assayerref1_SameLimbs.f 40002 [] [] = some true := same_ok [] (by simp) 40002 (by simp)
  have sadd : val x + val y < 4294967296 ^ 200 := small_pow _ 13 (by rw [Nat.pow_succ]; omega) (by decide)
  have smul : val x * val y < 4294967296 ^ 200 := small_pow _ 24 (by have := Nat.mul_lt_mul'' vx vy; rwa [← Nat.pow_add] at this) (by decide)
  have p2 : (4294967296 : Nat) ^ 2 = 18446744073709551616 := by decide
  have sof : v.toNat < 4294967296 ^ 200 := small_pow v.toNat 2 (by rw [p2]; omega) (by decide)
  have sshl : shN (val x) n < 4294967296 ^ 200 := by
    unfold shN
    by_cases c : n < 0
    · rw [if_pos c]; exact small_pow _ 12 (Nat.lt_of_le_of_lt (Nat.div_le_self _ _) vx) (by decide)
    · rw [if_neg c]
      apply small_pow _ 32 _ (by decide)
      have : 2 ^ n.toNat ≤ 4294967296 ^ 20 := by rw [pow32]; exact Nat.pow_le_pow_right (by decide) (by omega)
      calc val x * 2 ^ n.toNat ≤ val x * 4294967296 ^ 20 := Nat.mul_le_mul_left _ this
        _ < 4294967296 ^ 12 * 4294967296 ^ 20 := Nat.mul_lt_mul_of_pos_right vx (pow_pos_ _)
        _ = 4294967296 ^ 32 := by rw [← Nat.pow_add]
  have ssub : assayerref1_SameLimbs.f 40002 (if val x < val y then (([] : List Int), false) else (limbs (val x - val y), true)).1 (if val x < val y then (([] : List Int), false) else (limbs (val x - val y), true)).1 = some true := by
    by_cases c : val x < val y
    · rw [if_pos c]; exact nil0
    · rw [if_neg c]; exact same_lim _ _ (small_pow _ 12 (by omega) (by decide)) (by omega)
  have sdq : assayerref1_SameLimbs.f 40002 (if val y = 0 then (([] : List Int), ([] : List Int), false) else (limbs (val x / val y), limbs (val x % val y), true)).1 (if val y = 0 then (([] : List Int), ([] : List Int), false) else (limbs (val x / val y), limbs (val x % val y), true)).1 = some true := by
    by_cases c : val y = 0
    · rw [if_pos c]; exact nil0
    · rw [if_neg c]; exact same_lim _ _ (small_pow _ 12 (Nat.lt_of_le_of_lt (Nat.div_le_self _ _) vx) (by decide)) (by omega)
  have sdr : assayerref1_SameLimbs.f 40002 (if val y = 0 then (([] : List Int), ([] : List Int), false) else (limbs (val x / val y), limbs (val x % val y), true)).2.1 (if val y = 0 then (([] : List Int), ([] : List Int), false) else (limbs (val x / val y), limbs (val x % val y), true)).2.1 = some true := by
    by_cases c : val y = 0
    · rw [if_pos c]; exact nil0
    · rw [if_neg c]; exact same_lim _ _ (small_pow _ 12 (Nat.lt_of_le_of_lt (Nat.mod_le _ _) vx) (by decide)) (by omega)
  simp only [assayerlaw3_BigAll.j0]
  rw [if_neg (by decide), sub_ok x y ux uy (by omega) (by omega) 40002 (by omega), Option.bind_some, rsub_ok x y ux uy (by omega) (by omega) 40002 (by omega), Option.bind_some, div_ok x y ux uy (by omega) (by omega) 40002 (by omega), Option.bind_some, rdiv_ok x y ux uy (by omega) (by omega) 40002 (by omega), Option.bind_some]
  rw [ssub, sdq, sdr]
  generalize (if val x < val y then (([] : List Int), false) else (limbs (val x - val y), true)) = P
  generalize (if val y = 0 then (([] : List Int), ([] : List Int), false) else (limbs (val x / val y), limbs (val x % val y), true)) = Q
  rw [add_ok x y ux uy (by omega) (by omega) 40002 (by omega), Option.bind_some, radd_ok x y ux uy (by omega) (by omega) 40002 (by omega), Option.bind_some, same_lim _ 40002 sadd (by omega), Option.bind_some, if_pos rfl]
  rw [mul_ok x y ux uy (by omega) (by omega) 40002 (by omega), Option.bind_some, rmul_ok x y ux uy (by omega) (by omega) 40002 (by omega), Option.bind_some, same_lim _ 40002 smul (by omega), Option.bind_some, if_pos rfl]
  rw [Option.bind_some, if_pos rfl, if_pos (beq_self_eq_true _), Option.bind_some, if_pos rfl, Option.bind_some, if_pos rfl, if_pos (beq_self_eq_true _)]
  rw [cmp_ok x y ux uy (by omega) (by omega) 40002 (by omega) (by omega), Option.bind_some, rcmp_ok x y ux uy (by omega) (by omega) 40002 (by omega), Option.bind_some, if_pos rfl]
  rw [shl_ok x ux (by omega) n (by omega) (by omega) 40002 (by omega), Option.bind_some, rshl_ok x ux (by omega) n (by omega) (by omega) 40002 (by omega), Option.bind_some, same_lim _ 40002 sshl (by omega), Option.bind_some, if_pos rfl]
  rw [bits_ok x ux (by omega) 40002 (by omega), Option.bind_some, rbits_ok x ux (by omega) 40002 (by omega), Option.bind_some, if_pos rfl]
  rw [low_ok x ux 40002 (by omega), Option.bind_some, rlow_ok x ux, Option.bind_some, if_pos rfl]
  rw [of_ok v v0 v1 40002 (by omega), Option.bind_some, rof_ok v v0 v1 40002 (by omega), Option.bind_some, same_lim _ 40002 sof (by omega), Option.bind_some]
theorem BigAll : assayerlaw3_BigAll.Pure := by
  intro x y n v _ _ hx _ _ hy hn hv
  have bv := wf_u64 hv
  have hj : assayerlaw3_BigAll.j0 40003 x y n v true = some true := by
    simp only [assayerlaw3_BigAll.j0]
    rw [if_pos trivial]
  refine ⟨40003, ?_⟩
  have lt : (-500 : Int) ≤ n → n ≤ 500 → x.length ≤ 12 → y.length ≤ 12 → assayerlaw3_BigAll.j0 40003 x y n v false = some true := fun h0 h1 lx ly =>
    all_main x y n v (U.of_wf hx) (U.of_wf hy) lx ly h0 h1 bv.1 bv.2
  rw [assayerlaw3_BigAll.f, all_begun, Option.bind_some, if_pos rfl, light_all x y 40000, Option.bind_some]
  by_cases c1 : x.length > 12
  · rw [if_pos c1, if_neg (by decide)]; exact hj
  · by_cases c2 : y.length > 12
    · rw [if_neg c1, if_pos c2, if_neg (by decide)]; exact hj
    · rw [if_neg c1, if_neg c2, if_pos rfl]
      by_cases c3 : n < -500
      · rw [if_pos c3]; exact hj
      · rw [if_neg c3]
        by_cases c4 : n > 500
        · rw [decide_eq_true c4]; exact hj
        · rw [decide_eq_false c4]; exact lt (by omega) (by omega) (by omega) (by omega)
end Go.Proofs.Ytgejdfhfgphcbaa.Pure
