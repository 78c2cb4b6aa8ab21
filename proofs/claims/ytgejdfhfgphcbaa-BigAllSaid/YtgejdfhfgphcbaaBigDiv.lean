/- Package big's Div, by what its lists are worth. Lists of up to 100 entries. -/
import Derived.Test.YtgejdfhfgphcbaaBigMore
namespace Go.Proofs.Ytgejdfhfgphcbaa.Big
open Go.RowKit Go.Proofs.Ytgejdfhfgphcbaa.PBig Go.Proofs.YtgejdfhfgphcbaaW.PrintWords Go.Proofs.YtgejdfhfgphcbaaW.PrintLast Go.Proofs.YtgejdfhfgphcbaaW.PrintMore Go.Proofs.Ytgejdfhfgphcbaa.Aid

theorem bit_test (t : List Int) (ht : U t) (i : Nat) : Go.bits .and .u32 (shr .u32 (rd t ((i / 32 : Nat) : Int)) ((i % 32 : Nat) : Int)) 1 = ((val t / 2 ^ i % 2 : Nat) : Int) := by
  have r := ht.rd (i / 32)
  have e0 : ∀ a : Nat, shr .u32 (a : Int) ((i % 32 : Nat) : Int) = ((a / 2 ^ (i % 32) : Nat) : Int) := by
    intro a
    unfold shr
    rw [Int.toNat_natCast, Nat.min_eq_left (by simp only [IntKind.bits]; omega), Int.natCast_ediv, Int.natCast_pow]
    rfl
  have e : shr .u32 (rd t ((i / 32 : Nat) : Int)) ((i % 32 : Nat) : Int) = (((rd t ((i / 32 : Nat) : Int)).toNat / 2 ^ (i % 32) : Nat) : Int) := by rw [← e0, ← rd_nat ht]
  have lt : (rd t ((i / 32 : Nat) : Int)).toNat / 2 ^ (i % 32) ≤ (rd t ((i / 32 : Nat) : Int)).toNat := Nat.div_le_self _ _
  rw [e, bit_of ht i]
  generalize (rd t ((i / 32 : Nat) : Int)).toNat / 2 ^ (i % 32) = Q at *
  rw [u32_and1 (by omega) (by omega)]
  rfl
theorem or_u32 (a b : Nat) (ha : a < 2 ^ 32) (hb : b < 2 ^ 32) : Go.bits .or .u32 (a : Int) (b : Int) = ((a ||| b : Nat) : Int) := (bits_nat .u32 32 (by decide) wraps_u32 a b ha hb).2
theorem bit_put (q : List Int) (hq : U q) (i : Nat) (hi : i / 32 < q.length) (hz : val q % 2 ^ (i + 1) = 0) :
    ∃ v : Int, Go.bits .or .u32 (rd q ((i / 32 : Nat) : Int)) (shl .u32 1 ((i % 32 : Nat) : Int)) = v ∧ 0 ≤ v ∧ v < 4294967296 ∧ val (q.set (i / 32) v) = val q + 2 ^ i := by
  have r := hq.rd (i / 32)
  have hs : i % 32 < 32 := by omega
  have h1 : 2 ^ (i % 32) ≤ 2 ^ 31 := Nat.pow_le_pow_right (by decide) (by omega)
  have lo := entry_low hq i hz
  have e1 : shl .u32 1 ((i % 32 : Nat) : Int) = ((2 ^ (i % 32) : Nat) : Int) := by
    unfold shl
    rw [Int.toNat_natCast, Nat.min_eq_left (by simp only [IntKind.bits]; omega), Int.one_mul]
    have e : ((2 : Int) ^ (i % 32)) = ((2 ^ (i % 32) : Nat) : Int) := by rw [Int.natCast_pow]; rfl
    rw [e, wraps_u32 _ (by omega) (by omega)]
  have e2 : Go.bits .or .u32 (rd q ((i / 32 : Nat) : Int)) (shl .u32 1 ((i % 32 : Nat) : Int)) = (((rd q ((i / 32 : Nat) : Int)).toNat + 2 ^ (i % 32) : Nat) : Int) := by
    rw [e1, rd_nat hq, or_u32 _ _ (by omega) (by omega), or_bit _ _ lo, Int.toNat_natCast]
  have dv : (rd q ((i / 32 : Nat) : Int)).toNat + 2 ^ (i % 32) < 2 ^ 32 := by
    rw [← or_bit _ _ lo]
    exact Nat.or_lt_two_pow (by omega) (by omega)
  refine ⟨_, e2, by omega, by omega, ?_⟩
  have st := val_set (l := q) (i / 32) hi (((rd q ((i / 32 : Nat) : Int)).toNat + 2 ^ (i % 32) : Nat) : Int)
  rw [Int.toNat_natCast, Nat.mul_add] at st
  rw [pow_parts i]
  omega
theorem div_loop (t y : List Int) (ht : U t) (hy : U y) (hlt : t.length ≤ 100) (hly : y.length ≤ 100) (m : Nat) : ∀ (q : List Int) (R k : Nat), m ≤ 32 * t.length → m + 9000 < k → q.length = t.length → U q → R < val y →
    val t / 2 ^ m = val q / 2 ^ m * val y + R → val q % 2 ^ m = 0 →
    big_Div.l0 k t y q (limbs R) ((m : Int) - 1) = some (limbs (val t / val y), limbs (val t % val y), true) := by
  induction m with
  | zero =>
    intro q R k hm hk hl hq hR hv hz
    obtain ⟨k, rfl⟩ : ∃ j, k = j + 1 := ⟨k - 1, by omega⟩
    have lR : (limbs R).length ≤ 100 := Nat.le_trans (limbs_len_le.mpr (Nat.lt_trans hR (val_lt hy))) hly
    simp only [big_Div.l0]
    rw [if_neg (by omega), cut_ok q hq (by omega) k (by omega), Option.bind_some, cut_ok _ (U_limbs R) (by omega) k (by omega), Option.bind_some, val_limbs]
    rw [Nat.pow_zero, Nat.div_one, Nat.div_one] at hv
    have h1 : val t / val y = val q := by rw [hv, Nat.add_comm, Nat.add_mul_div_right _ _ (by omega), Nat.div_eq_of_lt hR, Nat.zero_add]
    have h2 : val t % val y = R := by rw [hv, Nat.add_comm, Nat.add_mul_mod_self_right, Nat.mod_eq_of_lt hR]
    rw [h1, h2]
  | succ i ih =>
    intro q R k hm hk hl hq hR hv hz
    obtain ⟨k, rfl⟩ : ∃ j, k = j + 1 := ⟨k - 1, by omega⟩
    have lR : (limbs R).length ≤ 100 := Nat.le_trans (limbs_len_le.mpr (Nat.lt_trans hR (val_lt hy))) hly
    obtain ⟨v, hv1, hv2, hv3, hv4⟩ := bit_put q hq i (by omega) hz
    have dv := div_step (val t) (val y) (val q) R _ i hv hz rfl
    simp only [big_Div.l0]
    rw [show ((i + 1 : Nat) : Int) - 1 = (i : Int) by omega, if_pos (by omega), shl_ok _ (U_limbs R) (by omega) 1 (by decide) (by decide) k (by omega), Option.bind_some, tdiv32, tmod32, w64 (x := ((i / 32 : Nat) : Int)) (by omega) (by omega), if_pos (by omega), if_pos (by omega), if_pos (by omega), bit_test t ht i, hv1, Int.toNat_natCast, w64 (x := (i : Int) - 1) (by omega) (by omega)]
    rw [show shN (val (limbs R)) 1 = 2 * R by rw [val_limbs]; unfold shN; rw [if_neg (by decide), show (1 : Int).toNat = 1 by decide]; omega]
    have l2 : ∀ S, S < 2 * val y → (limbs S).length ≤ 101 := by
      intro S hS
      apply limbs_len_le.mpr
      have h1 := val_lt hy
      have h2 : (4294967296 : Nat) ^ y.length ≤ 4294967296 ^ 100 := Nat.pow_le_pow_right (by decide) hly
      rw [Nat.pow_succ]
      omega
    have fin : ∀ (S : Nat) (b : Nat), S = 2 * R + b → b ≤ 1 → val t / 2 ^ i % 2 = b →
        ((some (if S < val y then (([] : List Int), false) else (limbs (S - val y), true))).bind fun bt => if bt.2 = true then (if ((i / 32 : Nat) : Int) < (q.length : Int) then big_Div.l0 k t y (q.set (i / 32) v) bt.1 ((i : Int) - 1) else none) else big_Div.l0 k t y q (limbs S) ((i : Int) - 1)) = some (limbs (val t / val y), limbs (val t % val y), true) := by
      intro S b hS hb hbit
      rw [hbit, ← hS] at dv
      rw [Option.bind_some]
      by_cases c : S < val y
      · rw [if_pos c, if_neg (by decide)]
        exact ih q S k (by omega) (by omega) hl hq c dv.1 dv.2
      · have dp := div_put (val t) (val y) (val q) S i dv.1 dv.2 (by omega)
        rw [← hv4] at dp
        rw [if_neg c, if_pos (show (limbs (S - val y), true).snd = true from rfl), if_pos (by omega)]
        exact ih _ (S - val y) k (by omega) (by omega) (by rw [List.length_set]; exact hl) (hq.set _ ⟨hv2, hv3⟩) (by omega) dp.1 dp.2
    have hb2 : val t / 2 ^ i % 2 = 0 ∨ val t / 2 ^ i % 2 = 1 := by omega
    rcases hb2 with hb | hb
    · rw [hb, if_pos (show ((0 : Nat) : Int) = 0 from rfl), sub_ok _ _ (U_limbs _) hy (by have := l2 (2 * R) (by omega); omega) (by omega) k (by omega), val_limbs]
      exact fin (2 * R) 0 rfl (by decide) hb
    · have l3 := l2 (2 * R) (by omega)
      have l4 := l2 (2 * R + 1) (by omega)
      rw [hb, if_neg (by decide), of_ok 1 (by decide) (by decide) k (by omega), Option.bind_some, add_ok _ _ (U_limbs _) (U_limbs _) (by omega) (by decide +kernel) k (by omega), Option.bind_some, val_limbs, val_limbs, show (1 : Int).toNat = 1 by decide, sub_ok _ _ (U_limbs _) hy (by omega) (by omega) k (by omega), val_limbs]
      exact fin (2 * R + 1) 1 rfl (by decide) hb
theorem div_ok (x y : List Int) (hx : U x) (hy : U y) (lx : x.length ≤ 100) (ly : y.length ≤ 100) (k : Nat) (hk : 12300 < k) :
    big_Div.f k x y = some (if val y = 0 then ([], [], false) else (limbs (val x / val y), limbs (val x % val y), true)) := by
  unfold big_Div.f
  have e1 := limbs_len_val hx
  have e2 := limbs_len_val hy
  rw [cut_ok x hx (by omega) k (by omega), Option.bind_some, cut_ok y hy (by omega) k (by omega), Option.bind_some]
  by_cases c : val y = 0
  · rw [if_pos c, c, limbs_zero, if_pos (by simp)]
  · have hp : (limbs (val y)).length ≠ 0 := fun e => c (limbs_len0.mp e)
    have hb : nb (val x) ≤ 32 * (limbs (val x)).length := nb_le.mpr (by have := val_lt (U_limbs (val x)); rw [val_limbs, pow32] at this; exact this)
    rw [if_neg c, if_neg (by omega), if_pos (by omega), if_pos (by omega), bits_ok _ (U_limbs _) (by omega) k (by omega), Option.bind_some, val_limbs, w64 (by omega) (by omega), Int.toNat_natCast]
    have := div_loop (limbs (val x)) (limbs (val y)) (U_limbs _) (U_limbs _) (by omega) (by omega) (nb (val x)) (List.replicate (limbs (val x)).length 0) 0 k hb (by omega) (by rw [List.length_replicate]) (U.rep _) (by rw [val_limbs]; omega) (by rw [val_limbs, val_rep, Nat.div_eq_of_lt (nb_le.mp (Nat.le_refl _))]; simp) (by rw [val_rep]; simp)
    rw [val_limbs, val_limbs, limbs_zero] at this
    exact this
theorem cmp_eq (m : Nat) : cmp m m = 0 := by unfold cmp; rw [if_neg (by omega), if_neg (by omega)]
theorem U.of_wf {l : List Int} (h : ∀ x ∈ l, (Lit.int .u32 x).wf = true) : U l := fun x hx => by
  have := wf_u32 (h x hx); omega
theorem len_mul {x y : Nat} {a b : Nat} (hx : x < 4294967296 ^ a) (hy : y < 4294967296 ^ b) : (limbs (x * y)).length ≤ a + b :=
  limbs_len_le.mpr (by rw [Nat.pow_add]; exact Nat.mul_lt_mul'' hx hy)
theorem len_add {x y : Nat} {a : Nat} (hx : x < 4294967296 ^ a) (hy : y < 4294967296 ^ a) : (limbs (x + y)).length ≤ a + 1 :=
  limbs_len_le.mpr (by rw [Nat.pow_succ]; omega)
end Go.Proofs.Ytgejdfhfgphcbaa.Big
