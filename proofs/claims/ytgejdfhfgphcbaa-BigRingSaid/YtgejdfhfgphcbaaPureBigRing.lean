/- BigRing, the plain law: sums and products go together, differences come back. No condition. -/
import Derived.Test.YtgejdfhfgphcbaaPBigx
import Derived.Test.YtgejdfhfgphcbaaBigDiv
namespace Go.Proofs.Ytgejdfhfgphcbaa.Pure
open Go.RowKit Go.Proofs.Ytgejdfhfgphcbaa.PBig Go.Proofs.YtgejdfhfgphcbaaW.PrintWords Go.Proofs.YtgejdfhfgphcbaaW.PrintLast Go.Proofs.YtgejdfhfgphcbaaW.PrintMore Go.Proofs.Ytgejdfhfgphcbaa.Aid Go.Proofs.Ytgejdfhfgphcbaa.Big

theorem ring_begun : assayerlaw3_begun.f 20001 = some true := by kernel_rfl
theorem ring_main (x y z : List Int) (ux : U x) (uy : U y) (uz : U z) (lx : x.length ≤ 8) (ly : y.length ≤ 8) (lz : z.length ≤ 8) : assayerlaw3_BigRing.j0 20001 x y z false = some true := by
  have B8 : ∀ l : List Int, U l → l.length ≤ 8 → val l < 4294967296 ^ 8 := fun l u h => Nat.lt_of_lt_of_le (val_lt u) (Nat.pow_le_pow_right (by decide) h)
  have vx := B8 x ux lx
  have vy := B8 y uy ly
  have vz := B8 z uz lz
  have lyz := len_add vy vz
  have lxy := len_mul vx vy
  have lxz := len_mul vx vz
  have lyzm := len_mul vy vz
  have lxs := len_add vx vy
  have v16 : ∀ a b : Nat, a < 4294967296 ^ 8 → b < 4294967296 ^ 8 → a * b < 4294967296 ^ 16 := fun a b ha hb => by
    have := Nat.mul_lt_mul'' ha hb
    rwa [← Nat.pow_add] at this
  have lsum := len_add (v16 _ _ vx vy) (v16 _ _ vx vz)
  have v9 : val y + val z < 4294967296 ^ 9 := by rw [Nat.pow_succ]; omega
  have lall := len_mul vx v9
  have l3 := len_mul (v16 _ _ vx vy) vz
  have l4 := len_mul vx (v16 _ _ vy vz)
  simp only [assayerlaw3_BigRing.j0]
  rw [if_neg (by decide)]
  rw [add_ok y z uy uz (by omega) (by omega) 20000 (by omega), Option.bind_some, mul_ok x _ ux (U_limbs _) (by omega) (by omega) 20000 (by omega), Option.bind_some, val_limbs]
  rw [mul_ok x y ux uy (by omega) (by omega) 20000 (by omega), Option.bind_some, mul_ok x z ux uz (by omega) (by omega) 20000 (by omega), Option.bind_some]
  rw [add_ok _ _ (U_limbs _) (U_limbs _) (by omega) (by omega) 20000 (by omega), Option.bind_some, val_limbs, val_limbs, add_ok x y ux uy (by omega) (by omega) 20000 (by omega), Option.bind_some]
  rw [sub_ok _ y (U_limbs _) uy (by omega) (by omega) 20000 (by omega), Option.bind_some, val_limbs, if_neg (show ¬ val x + val y < val y by omega)]
  rw [cmp_ok _ _ (U_limbs _) (U_limbs _) (by omega) (by omega) 20000 (by omega) (by omega), Option.bind_some, val_limbs, val_limbs, Nat.mul_add, cmp_eq, if_pos rfl]
  dsimp only
  rw [if_pos rfl, cmp_ok _ x (U_limbs _) ux (by rw [Nat.add_sub_cancel]; have := limbs_len_val ux; omega) (by omega) 20000 (by rw [Nat.add_sub_cancel]; have := limbs_len_val ux; omega) (by omega), Option.bind_some, val_limbs, Nat.add_sub_cancel, cmp_eq, if_pos rfl]
  rw [mul_ok y x uy ux (by omega) (by omega) 20000 (by omega), Option.bind_some, Nat.mul_comm (val y) (val x), Option.bind_some]
  rw [cmp_ok _ _ (U_limbs _) (U_limbs _) (by omega) (by omega) 20000 (by omega) (by omega), Option.bind_some, cmp_eq, if_pos rfl]
  rw [Option.bind_some, mul_ok _ z (U_limbs _) uz (by omega) (by omega) 20000 (by omega), Option.bind_some, val_limbs, mul_ok y z uy uz (by omega) (by omega) 20000 (by omega), Option.bind_some, mul_ok x _ ux (U_limbs _) (by omega) (by omega) 20000 (by omega), Option.bind_some, val_limbs]
  rw [cmp_ok _ _ (U_limbs _) (U_limbs _) (by omega) (by omega) 20000 (by omega) (by omega), Option.bind_some, val_limbs, val_limbs, Nat.mul_assoc, cmp_eq]
  rfl
theorem BigRing : assayerlaw3_BigRing.Pure := by
  intro x y z _ _ hx _ _ hy _ _ hz
  refine ⟨20001, ?_⟩
  have hj : assayerlaw3_BigRing.j0 20001 x y z true = some true := by
    simp only [assayerlaw3_BigRing.j0]
    rw [if_pos trivial]
  rw [assayerlaw3_BigRing.f, ring_begun, Option.bind_some, if_pos rfl]
  by_cases c1 : (x.length : Int) > 8
  · rw [if_pos c1]; exact hj
  · rw [if_neg c1]
    by_cases c2 : (y.length : Int) > 8
    · rw [if_pos c2]; exact hj
    · rw [if_neg c2]
      by_cases c3 : (z.length : Int) > 8
      · rw [decide_eq_true c3]; exact hj
      · rw [decide_eq_false c3]
        exact ring_main x y z (U.of_wf hx) (U.of_wf hy) (U.of_wf hz) (by omega) (by omega) (by omega)
end Go.Proofs.Ytgejdfhfgphcbaa.Pure
