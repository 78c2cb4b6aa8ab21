/- The document's numbers (assayerref1: at, bit, Norm, Of, Cmp, Add, Sub, Mul, Shl, Bits, Low, Div, SameLimbs), by what their lists are worth. Lists of up to 100 entries. -/
import Derived.Test.YtgejdfhfgphcbaaPBigx9
import Derived.Test.YtgejdfhfgphcbaaBigDiv
namespace Go.Proofs.Ytgejdfhfgphcbaa.Big
open Go.RowKit Go.Proofs.Ytgejdfhfgphcbaa.PBig Go.Proofs.YtgejdfhfgphcbaaW.PrintWords Go.Proofs.YtgejdfhfgphcbaaW.PrintLast Go.Proofs.YtgejdfhfgphcbaaW.PrintMore Go.Proofs.Ytgejdfhfgphcbaa.Aid

theorem same_loop (L : List Int) (hl : L.length ≤ 100000) (d : Nat) : ∀ (i k : Nat), i + d = L.length → d < k → assayerref1_SameLimbs.l0 k L L (i : Int) = some true := by
  induction d with
  | zero =>
    intro i k hi hk
    obtain ⟨k, rfl⟩ : ∃ m, k = m + 1 := ⟨k - 1, by omega⟩
    simp only [assayerref1_SameLimbs.l0]
    rw [if_neg (by omega)]
  | succ d ih =>
    intro i k hi hk
    obtain ⟨k, rfl⟩ : ∃ m, k = m + 1 := ⟨k - 1, by omega⟩
    simp only [assayerref1_SameLimbs.l0]
    rw [if_pos (by omega), if_pos (by omega), if_pos (by omega), if_pos trivial, w64 (by omega) (by omega), show (i : Int) + 1 = ((i + 1 : Nat) : Int) by omega]
    exact ih (i + 1) k (by omega) (by omega)
theorem same_ok (L : List Int) (hl : L.length ≤ 100000) (k : Nat) (hk : L.length < k) : assayerref1_SameLimbs.f k L L = some true := by
  unfold assayerref1_SameLimbs.f
  rw [if_pos rfl]
  exact same_loop L hl L.length 0 k (by omega) hk
theorem at_ok (L : List Int) (h : U L) (i : Nat) : assayerref1_at.f L (i : Int) = some (rd L (i : Int)) := by
  have r := h.rd i
  unfold assayerref1_at.f
  by_cases c : i < L.length
  · rw [if_pos (by omega), if_pos (by omega), wraps_u64 _ (by omega) (by omega)]
  · rw [if_neg (by omega), rd_out i (by omega)]
theorem rbit_ok (L : List Int) (h : U L) (i : Nat) (hi : i ≤ 1000000) : assayerref1_bit.f L (i : Int) = some ((val L / 2 ^ i % 2 : Nat) : Int) := by
  have r := h.rd (i / 32)
  unfold assayerref1_bit.f
  rw [tdiv32, tmod32, w64 (by omega) (by omega), at_ok L h, Option.bind_some, if_pos (by omega)]
  have e0 : ∀ a : Nat, shr .u64 (a : Int) ((i % 32 : Nat) : Int) = ((a / 2 ^ (i % 32) : Nat) : Int) := by
    intro a
    unfold shr
    rw [Int.toNat_natCast, Nat.min_eq_left (by simp only [IntKind.bits]; omega), Int.natCast_ediv, Int.natCast_pow]
    rfl
  have e : shr .u64 (rd L ((i / 32 : Nat) : Int)) ((i % 32 : Nat) : Int) = (((rd L ((i / 32 : Nat) : Int)).toNat / 2 ^ (i % 32) : Nat) : Int) := by rw [← e0, ← rd_nat h]
  have lt : (rd L ((i / 32 : Nat) : Int)).toNat / 2 ^ (i % 32) ≤ (rd L ((i / 32 : Nat) : Int)).toNat := Nat.div_le_self _ _
  rw [e, bit_of h i]
  generalize (rd L ((i / 32 : Nat) : Int)).toNat / 2 ^ (i % 32) = Q at *
  rw [u64_and1 (by omega) (by omega)]
  rfl
theorem norm_eq (k : Nat) : ∀ (x : List Int) (n : Int), assayerref1_Norm.l0 k x n = big_cut.l0 k x n := by
  induction k with
  | zero => intros; rfl
  | succ k ih => intros; simp only [assayerref1_Norm.l0, big_cut.l0, Option.bind_some, ih]
theorem norm_ok (L : List Int) (h : U L) (hl : L.length ≤ 100000) (k : Nat) (hk : L.length < k) : assayerref1_Norm.f k L = some (limbs (val L)) := by
  have := cut_ok L h hl k hk
  unfold big_cut.f at this
  unfold assayerref1_Norm.f
  rw [norm_eq]
  exact this
theorem rof_ok (v : Int) (h0 : 0 ≤ v) (h1 : v ≤ 18446744073709551615) (k : Nat) (hk : 2 < k) : assayerref1_Of.f k v = some (limbs v.toNat) := by
  unfold assayerref1_Of.f
  rw [norm_ok _ (U.cons (by omega) (U.cons (by omega) U.nil)) (by simp) k (by simpa using hk), Option.bind_some]
  simp only [val]
  congr 2
  omega
/-- what lies from an entry on -/
theorem hi_step {L : List Int} (h : U L) (i : Nat) : val L / 4294967296 ^ i = (rd L (i : Int)).toNat + 4294967296 * (val L / 4294967296 ^ (i + 1)) := by
  have := U_bound h i
  rw [Nat.pow_succ, ← Nat.div_div_eq_div_mul]
  omega
theorem rcmp_loop (a b : List Int) (ha : U a) (hb : U b) (n : Nat) : ∀ k, n ≤ 100000 → n < k → val a / 4294967296 ^ n = val b / 4294967296 ^ n →
    assayerref1_Cmp.l0 k a b ((n : Int) - 1) = some (cmp (val a) (val b)) := by
  induction n with
  | zero =>
    intro k _ hk hz
    obtain ⟨k, rfl⟩ : ∃ m, k = m + 1 := ⟨k - 1, by omega⟩
    simp only [assayerref1_Cmp.l0]
    rw [Nat.pow_zero, Nat.div_one, Nat.div_one] at hz
    rw [if_neg (by omega), hz, cmp_eq]
  | succ n ih =>
    intro k hn hk hz
    obtain ⟨k, rfl⟩ : ∃ m, k = m + 1 := ⟨k - 1, by omega⟩
    have h1 := hi_step ha n
    have h2 := hi_step hb n
    have ra := ha.rd n
    have rb := hb.rd n
    simp only [assayerref1_Cmp.l0]
    rw [show ((n + 1 : Nat) : Int) - 1 = (n : Int) by omega, if_pos (by omega), at_ok a ha, Option.bind_some, at_ok b hb, Option.bind_some, w64 (x := (n : Int) - 1) (by omega) (by omega)]
    by_cases c1 : rd a (n : Int) < rd b (n : Int)
    · have : val a < val b := by
        by_cases c : val a < val b
        · exact c
        · have := Nat.div_le_div_right (c := 4294967296 ^ n) (show val b ≤ val a by omega)
          omega
      rw [if_pos c1, cmp, if_pos this]
    · rw [if_neg c1, Option.bind_some, Option.bind_some]
      by_cases c2 : rd a (n : Int) > rd b (n : Int)
      · have : val b < val a := by
          by_cases c : val b < val a
          · exact c
          · have := Nat.div_le_div_right (c := 4294967296 ^ n) (show val a ≤ val b by omega)
            omega
        rw [if_pos c2, cmp, if_neg (by omega), if_pos this]
      · rw [if_neg c2]
        exact ih k (by omega) (by omega) (by omega)
theorem hi_zero {L : List Int} (h : U L) (n : Nat) (hn : L.length ≤ n) : val L / 4294967296 ^ n = 0 := by
  have lt := val_lt h
  have : (4294967296 : Nat) ^ L.length ≤ 4294967296 ^ n := Nat.pow_le_pow_right (by decide) hn
  exact Nat.div_eq_of_lt (by omega)
theorem rcmp_ok (x y : List Int) (hx : U x) (hy : U y) (lx : x.length ≤ 1000) (ly : y.length ≤ 1000) (k : Nat) (hk : 1001 < k) : assayerref1_Cmp.f k x y = some (cmp (val x) (val y)) := by
  unfold assayerref1_Cmp.f
  by_cases c : x.length < y.length
  · rw [if_pos (by omega), w64 (by omega) (by omega)]
    exact rcmp_loop x y hx hy y.length k (by omega) (by omega) (by rw [hi_zero hx _ (by omega), hi_zero hy _ (by omega)])
  · rw [if_neg (by omega), w64 (by omega) (by omega)]
    exact rcmp_loop x y hx hy x.length k (by omega) (by omega) (by rw [hi_zero hx _ (by omega), hi_zero hy _ (by omega)])

theorem take_next {l : List Int} (i : Nat) : val (l.take (i + 1)) = val (l.take i) + 4294967296 ^ i * (rd l (i : Int)).toNat := by
  by_cases c : i < l.length
  · exact val_take_succ i c
  · rw [rd_out i (by omega), take_all (l := l) (i + 1) (by omega), take_all (l := l) i (by omega)]; rfl
theorem radd_loop (x y : List Int) (hx : U x) (hy : U y) (lx : x.length ≤ 1000) (ly : y.length ≤ 1000) (N : Nat) (hN1 : x.length ≤ N) (hN2 : y.length ≤ N) (hN : N ≤ 1000) (d : Nat) : ∀ (i c : Nat) (out : List Int) (k : Nat), i + d = N + 1 → 2 * d + 1010 < k → out.length = i → U out → c ≤ 1 →
    val out + 4294967296 ^ i * c = val (x.take i) + val (y.take i) →
    assayerref1_Add.l0 k x y out (c : Int) (i : Int) = some (limbs (val x + val y)) := by
  have stop : ∀ (i c : Nat) (out : List Int) (k : Nat), x.length ≤ i → y.length ≤ i → i ≤ N + 1 → c = 0 → 1010 < k → out.length = i → U out → val out + 4294967296 ^ i * c = val (x.take i) + val (y.take i) → assayerref1_Add.l0 k x y out (c : Int) (i : Int) = some (limbs (val x + val y)) := by
    intro i c out k h1 h2 h3 hc hk ho hu hv
    obtain ⟨k, rfl⟩ : ∃ m, k = m + 1 + 1 := ⟨k - 2, by omega⟩
    subst hc
    rw [Nat.mul_zero, Nat.add_zero, take_all i h1, take_all i h2] at hv
    simp only [assayerref1_Add.l0]
    rw [if_neg (by omega), if_neg (by omega), decide_eq_false (by decide)]
    simp only [assayerref1_Add.j1]
    rw [if_neg (by decide), norm_ok out hu (by omega) k (by omega), Option.bind_some, hv]
  induction d with
  | zero =>
    intro i c out k hi hk ho hu hc hv
    have e := hv
    rw [take_all i (by omega), take_all i (by omega)] at e
    have v1 := val_lt hx
    have v2 := val_lt hy
    have p1 : (4294967296 : Nat) ^ x.length ≤ 4294967296 ^ N := Nat.pow_le_pow_right (by decide) hN1
    have p2 : (4294967296 : Nat) ^ y.length ≤ 4294967296 ^ N := Nat.pow_le_pow_right (by decide) hN2
    have c0 : c = 0 := by
      by_cases c0 : c = 0
      · exact c0
      · obtain rfl : c = 1 := by omega
        rw [show i = N + 1 by omega, Nat.pow_succ] at e
        omega
    exact stop i c out k (by omega) (by omega) (by omega) c0 (by omega) ho hu hv
  | succ d ih =>
    intro i c out k hi hk ho hu hc hv
    have rx := hx.rd i
    have ry := hy.rd i
    have e : IntKind.u64.wrap ((IntKind.u64.wrap ((c : Int) + rd x (i : Int))) + rd y (i : Int)) = ((c + (rd x (i : Int)).toNat + (rd y (i : Int)).toNat : Nat) : Int) := by
      rw [wraps_u64 ((c : Int) + rd x (i : Int)) (by omega) (by omega), wraps_u64 _ (by omega) (by omega)]
      omega
    have go : ∀ k, 2 * d + 1011 < k → assayerref1_Add.j1 k x y out (c : Int) (i : Int) true = some (limbs (val x + val y)) := by
      intro k hk
      obtain ⟨k, rfl⟩ : ∃ m, k = m + 1 := ⟨k - 1, by omega⟩
      simp only [assayerref1_Add.j1]
      rw [if_pos trivial, at_ok x hx, Option.bind_some, at_ok y hy, Option.bind_some, if_pos (by omega), w64 (x := (i : Int) + 1) (by omega) (by omega), show (i : Int) + 1 = ((i + 1 : Nat) : Int) by omega, e]
      have st := sum_step out c (val (x.take i)) (val (y.take i)) (rd x (i : Int)).toNat (rd y (i : Int)).toNat _ (by rw [ho]; exact hv) rfl
      generalize hs : c + (rd x (i : Int)).toNat + (rd y (i : Int)).toNat = s at *
      rw [show ((s : Nat) : Int) % 4294967296 = ((s % 4294967296 : Nat) : Int) by omega, show ((s : Nat) : Int) / 4294967296 = ((s / 4294967296 : Nat) : Int) by omega]
      refine ih (i + 1) _ _ k (by omega) (by omega) (by rw [List.length_append, List.length_singleton]; omega) (hu.snoc (by omega)) (by omega) ?_
      rw [take_next, take_next]
      rw [List.length_append, List.length_singleton, ho] at st
      exact st
    by_cases c1 : i < x.length
    · obtain ⟨k, rfl⟩ : ∃ m, k = m + 1 := ⟨k - 1, by omega⟩
      simp only [assayerref1_Add.l0]
      rw [if_pos (by omega)]; exact go k (by omega)
    · by_cases c2 : i < y.length
      · obtain ⟨k, rfl⟩ : ∃ m, k = m + 1 := ⟨k - 1, by omega⟩
        simp only [assayerref1_Add.l0]
        rw [if_neg (by omega), if_pos (by omega)]; exact go k (by omega)
      · by_cases c3 : c = 0
        · exact stop i c out k (by omega) (by omega) (by omega) c3 (by omega) ho hu hv
        · obtain ⟨k, rfl⟩ : ∃ m, k = m + 1 := ⟨k - 1, by omega⟩
          simp only [assayerref1_Add.l0]
          rw [if_neg (by omega), if_neg (by omega), decide_eq_true (by omega)]; exact go k (by omega)
theorem radd_ok (x y : List Int) (hx : U x) (hy : U y) (lx : x.length ≤ 900) (ly : y.length ≤ 900) (k : Nat) (hk : 4000 < k) : assayerref1_Add.f k x y = some (limbs (val x + val y)) := by
  unfold assayerref1_Add.f
  exact radd_loop x y hx hy (by omega) (by omega) 900 lx ly (by omega) 901 0 0 [] k (by omega) (by omega) rfl U.nil (by omega) (by simp [val])

theorem rsub_loop (x y : List Int) (hx : U x) (hy : U y) (lx : x.length ≤ 1000) (hle : val y ≤ val x) (d : Nat) : ∀ (i b : Nat) (out : List Int) (k : Nat), i + d = x.length → d + 1010 < k → out.length = i → U out → b ≤ 1 →
    val out + val (y.take i) = val (x.take i) + 4294967296 ^ i * b →
    assayerref1_Sub.l0 k x y out (b : Int) (i : Int) = some (limbs (val x - val y), true) := by
  induction d with
  | zero =>
    intro i b out k hi hk ho hu hb hv
    obtain ⟨k, rfl⟩ : ∃ m, k = m + 1 := ⟨k - 1, by omega⟩
    simp only [assayerref1_Sub.l0]
    rw [if_neg (by omega), norm_ok out hu (by omega) k (by omega), Option.bind_some]
    have v1 := val_lt hx
    have vo := val_lt hu
    have vs := val_split y i
    rw [take_all (l := x) i (by omega)] at hv
    rw [show x.length = i by omega] at v1
    rw [ho] at vo
    have hd : val (y.drop i) = 0 := by
      by_cases c : val (y.drop i) = 0
      · exact c
      · have : 4294967296 ^ i * 1 ≤ 4294967296 ^ i * val (y.drop i) := Nat.mul_le_mul_left _ (by omega)
        omega
    rw [hd, Nat.mul_zero, Nat.add_zero] at vs
    obtain rfl | rfl : b = 0 ∨ b = 1 := by omega
    · rw [show val out = val x - val y by omega]
    · omega
  | succ d ih =>
    intro i b out k hi hk ho hu hb hv
    obtain ⟨k, rfl⟩ : ∃ m, k = m + 1 := ⟨k - 1, by omega⟩
    have rx := hx.rd i
    have ry := hy.rd i
    simp only [assayerref1_Sub.l0]
    rw [if_pos (by omega), at_ok x hx, Option.bind_some, at_ok y hy, Option.bind_some, if_pos (by omega), wraps_u64 (rd x (i : Int) + 4294967296) (by omega) (by omega), wraps_u64 (rd x (i : Int) + 4294967296 - rd y (i : Int)) (by omega) (by omega), wraps_u64 (rd x (i : Int) + 4294967296 - rd y (i : Int) - (b : Int)) (by omega) (by omega), wraps_u64 _ (by omega) (by omega), w64 (x := (i : Int) + 1) (by omega) (by omega), show (i : Int) + 1 = ((i + 1 : Nat) : Int) by omega]
    have key : ∀ (b2 : Nat) (v : Int), b2 ≤ 1 → 0 ≤ v → v < 4294967296 → v + rd y (i : Int) + (b : Int) = rd x (i : Int) + 4294967296 * (b2 : Int) →
        assayerref1_Sub.l0 k x y (out ++ [v]) (b2 : Int) ((i + 1 : Nat) : Int) = some (limbs (val x - val y), true) := by
      intro b2 v h1 h2 h3 h4
      refine ih (i + 1) b2 _ k (by omega) (by omega) (by rw [List.length_append, List.length_singleton]; omega) (hu.snoc ⟨h2, h3⟩) h1 ?_
      rw [val_append, val_one, ho, take_next, take_next, Nat.pow_succ]
      generalize 4294967296 ^ i = P at *
      generalize hV : v.toNat = V at *
      generalize hY : (rd y (i : Int)).toNat = Y at *
      generalize hX : (rd x (i : Int)).toNat = X at *
      have h5 : V + Y + b = X + 4294967296 * b2 := by omega
      have h6 : P * V + P * Y + P * b = P * X + P * 4294967296 * b2 := by rw [← Nat.mul_add, ← Nat.mul_add, h5, Nat.mul_add, Nat.mul_assoc]
      omega
    by_cases c : rd x (i : Int) < rd y (i : Int) + (b : Int)
    · rw [show (1 : Int) - (rd x (i : Int) + 4294967296 - rd y (i : Int) - (b : Int)) / 4294967296 = ((1 : Nat) : Int) by omega]
      exact key 1 _ (by omega) (by omega) (by omega) (by omega)
    · rw [show (1 : Int) - (rd x (i : Int) + 4294967296 - rd y (i : Int) - (b : Int)) / 4294967296 = ((0 : Nat) : Int) by omega]
      exact key 0 _ (by omega) (by omega) (by omega) (by omega)
theorem rsub_ok (x y : List Int) (hx : U x) (hy : U y) (lx : x.length ≤ 900) (ly : y.length ≤ 900) (k : Nat) (hk : 4000 < k) : assayerref1_Sub.f k x y = some (if val x < val y then ([], false) else (limbs (val x - val y), true)) := by
  unfold assayerref1_Sub.f
  rw [rcmp_ok x y hx hy (by omega) (by omega) k (by omega), Option.bind_some]
  by_cases c : val x < val y
  · rw [if_pos c, cmp, if_pos c, if_pos (by decide)]
  · rw [if_neg c, if_neg (by unfold cmp; rw [if_neg c]; by_cases c2 : val y < val x <;> simp [c2])]
    exact rsub_loop x y hx hy (by omega) (by omega) x.length 0 0 [] k (by omega) (by omega) rfl U.nil (by omega) (by simp [val])
end Go.Proofs.Ytgejdfhfgphcbaa.Big
