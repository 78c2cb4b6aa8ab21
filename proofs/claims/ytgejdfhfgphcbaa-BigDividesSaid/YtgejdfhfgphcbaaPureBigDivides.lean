/- BigDivides, the plain law: quotient times divisor and remainder make the number, the remainder is the lesser one. No condition. -/
import Derived.Test.YtgejdfhfgphcbaaPBigx
import Derived.Test.YtgejdfhfgphcbaaBigDiv
namespace Go.Proofs.Ytgejdfhfgphcbaa.Pure
open Go.RowKit Go.Proofs.Ytgejdfhfgphcbaa.PBig Go.Proofs.YtgejdfhfgphcbaaW.PrintWords Go.Proofs.YtgejdfhfgphcbaaW.PrintLast Go.Proofs.YtgejdfhfgphcbaaW.PrintMore Go.Proofs.Ytgejdfhfgphcbaa.Aid Go.Proofs.Ytgejdfhfgphcbaa.Big

theorem div_begun : assayerlaw3_begun.f 20003 = some true := by kernel_rfl
theorem light_ok (x y : List Int) (k : Nat) : assayerlaw3_light.f (k + 3) x y = some (if x.length > 12 then false else if y.length > 12 then false else true) := by
  unfold assayerlaw3_light.f assayerlaw3_lightG.f
  simp only [assayerlaw3_lightG.l0]
  rw [if_pos (by simp), if_pos (by decide), show rd_L1 [x, y] 0 = x from rfl]
  by_cases c1 : x.length > 12
  · rw [if_pos (by omega), if_pos c1]
  · rw [if_neg (by omega), if_neg c1, w64 (x := 0 + 1) (by decide) (by decide), show (0 : Int) + 1 = 1 from rfl, if_pos (by simp), if_pos (by decide), show rd_L1 [x, y] 1 = y from rfl]
    by_cases c2 : y.length > 12
    · rw [if_pos (by omega), if_pos c2]
    · rw [if_neg (by omega), if_neg c2, w64 (x := 1 + 1) (by decide) (by decide), show (1 : Int) + 1 = 2 from rfl, if_neg (by simp)]
theorem divides_main (x y : List Int) (ux : U x) (uy : U y) (lx : x.length ≤ 12) (ly : y.length ≤ 12) (k : Nat) (hk : 20000 < k) :
    ((big_Div.f k x y).bind fun bt380 => ((big_Bits.f k y).bind fun t387 => (if t387 = 0 then (if bt380.2.2 = true then (some false) else (some ((wrap64 ((bt380.1.length : Int) + (bt380.2.1.length : Int))) == 0))) else (if bt380.2.2 = true then ((big_Cmp.f k bt380.2.1 y).bind fun t388 => (if t388 < 0 then ((big_Mul.f k bt380.1 y).bind fun t389 => ((big_Add.f k t389 bt380.2.1).bind fun t392 => ((big_Cmp.f k t392 x).bind fun t395 => (if t395 = 0 then (if (bt380.1.length : Int) = 0 then (some true) else (if 0 ≤ (wrap64 ((bt380.1.length : Int) - 1)) then (if (wrap64 ((bt380.1.length : Int) - 1)) < (bt380.1.length : Int) then (some ((rd bt380.1 (wrap64 ((bt380.1.length : Int) - 1))) != 0)) else (none)) else (none))) else (some false))))) else (some false))) else (some false))))) = some true := by
  have vx := val_lt ux
  have vy := val_lt uy
  rw [div_ok x y ux uy (by omega) (by omega) k (by omega), Option.bind_some, bits_ok y uy (by omega) k (by omega), Option.bind_some]
  by_cases c : val y = 0
  · rw [if_pos c, c, if_pos (by decide)]
    dsimp only
    rw [if_neg (by decide), w64 (by decide) (by decide)]
    rfl
  · have hb : nb (val y) ≠ 0 := fun e => by
      have := nb_le.mp (Nat.le_of_eq e)
      rw [Nat.pow_zero] at this; omega
    rw [if_neg c, if_neg (by omega)]
    dsimp only
    have lq : (limbs (val x / val y)).length ≤ 12 := Nat.le_trans (limbs_len_le.mpr (Nat.lt_of_le_of_lt (Nat.div_le_self _ _) vx)) lx
    have hr : val x % val y < val y := Nat.mod_lt _ (by omega)
    have lr : (limbs (val x % val y)).length ≤ 12 := Nat.le_trans (limbs_len_le.mpr (Nat.lt_trans hr vy)) ly
    have lm : (limbs (val x / val y * val y)).length ≤ 12 := Nat.le_trans (limbs_len_le.mpr (Nat.lt_of_le_of_lt (Nat.div_mul_le_self _ _) vx)) lx
    have ld : (limbs (val x)).length ≤ 12 := Nat.le_trans (limbs_len_val ux) lx
    rw [if_pos rfl, cmp_ok _ y (U_limbs _) uy (by omega) (by omega) k (by omega) (by omega), Option.bind_some, val_limbs, show cmp (val x % val y) (val y) = -1 from if_pos hr, if_pos (by decide)]
    rw [mul_ok _ y (U_limbs _) uy (by omega) (by omega) k (by omega), Option.bind_some, val_limbs, add_ok _ _ (U_limbs _) (U_limbs _) (by omega) (by omega) k (by omega), Option.bind_some, val_limbs, val_limbs, Nat.mul_comm (val x / val y), Nat.div_add_mod]
    rw [cmp_ok _ x (U_limbs _) ux (by omega) (by omega) k (by omega) (by omega), Option.bind_some, val_limbs, cmp_eq, if_pos rfl]
    by_cases cq : val x / val y = 0
    · rw [cq, limbs_zero, if_pos (by simp)]
    · have hp : (limbs (val x / val y)).length ≠ 0 := fun e => cq (limbs_len0.mp e)
      have tp := top_pos cq
      rw [if_neg (by omega), w64 (by omega) (by omega), if_pos (by omega), if_pos (by omega), show ((limbs (val x / val y)).length : Int) - 1 = (((limbs (val x / val y)).length - 1 : Nat) : Int) by omega]
      congr 1
      rw [bne_iff_ne]
      omega
theorem BigDivides : assayerlaw3_BigDivides.Pure := by
  intro x y _ _ hx _ _ hy
  refine ⟨20003, ?_⟩
  rw [assayerlaw3_BigDivides.f, div_begun, Option.bind_some, if_pos rfl, light_ok x y 20000, Option.bind_some]
  by_cases c1 : x.length > 12
  · rw [if_pos c1, if_neg (by decide)]
  · by_cases c2 : y.length > 12
    · rw [if_neg c1, if_pos c2, if_neg (by decide)]
    · rw [if_neg c1, if_neg c2, if_pos rfl]
      exact divides_main x y (U.of_wf hx) (U.of_wf hy) (by omega) (by omega) 20003 (by omega)
end Go.Proofs.Ytgejdfhfgphcbaa.Pure
