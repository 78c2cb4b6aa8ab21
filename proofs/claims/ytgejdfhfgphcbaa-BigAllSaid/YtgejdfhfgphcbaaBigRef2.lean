/- The document's numbers, the second half: Mul, Shl, Bits, Low, Div. Lists of up to 100 entries. -/
import Derived.Test.YtgejdfhfgphcbaaBigRef
import Derived.Test.YtgejdfhfgphcbaaPBigx8
namespace Go.Proofs.Ytgejdfhfgphcbaa.Big
open Go.RowKit Go.Proofs.Ytgejdfhfgphcbaa.PBig Go.Proofs.YtgejdfhfgphcbaaW.PrintWords Go.Proofs.YtgejdfhfgphcbaaW.PrintLast Go.Proofs.YtgejdfhfgphcbaaW.PrintMore Go.Proofs.Ytgejdfhfgphcbaa.Aid

theorem rmul_inner (x y : List Int) (hx : U x) (hy : U y) (hlx : x.length ≤ 100) (hly : y.length ≤ 100) (i : Nat) (hi : i < x.length) (V : Nat) (R : Option (List Int)) (K : Nat)
    (next : ∀ (out : List Int) (k : Nat), out.length = x.length + y.length + 1 → U out → val out = V + 4294967296 ^ i * ((rd x (i : Int)).toNat * val y) → K ≤ k → assayerref1_Mul.l0 k x y out ((i + 1 : Nat) : Int) = R)
    (d : Nat) : ∀ (j c : Nat) (out : List Int) (k : Nat), j + d = y.length → d + K < k → out.length = x.length + y.length + 1 → U out → c < 4294967296 → rd out ((i + y.length : Nat) : Int) = 0 →
    val out + 4294967296 ^ (i + j) * c = V + 4294967296 ^ i * ((rd x (i : Int)).toNat * val (y.take j)) →
    assayerref1_Mul.l1 k x y out (i : Int) (c : Int) (j : Int) = R := by
  have ha := hx.rd i
  induction d with
  | zero =>
    intro j c out k hj hk ho hu hc hz hv
    obtain ⟨k, rfl⟩ : ∃ m, k = m + 1 := ⟨k - 1, by omega⟩
    simp only [assayerref1_Mul.l1]
    rw [if_neg (by omega), w64 (x := (i : Int) + (y.length : Int)) (by omega) (by omega), if_pos (by omega), if_pos (by omega), w64 (x := (i : Int) + 1) (by omega) (by omega), show (i : Int) + 1 = ((i + 1 : Nat) : Int) by omega, show ((i : Int) + (y.length : Int)) = ((i + y.length : Nat) : Int) by omega, Int.toNat_natCast]
    refine next _ k (by rw [List.length_set]; omega) (hu.set _ (by omega)) ?_ (by omega)
    have s := val_set (l := out) (i + y.length) (by omega) ((c : Int) % 4294967296)
    rw [hz, show ((c : Int) % 4294967296).toNat = c by omega] at s
    rw [take_all j (by omega), show j = y.length by omega] at hv
    rw [← hv, ← s]
    rfl
  | succ d ih =>
    intro j c out k hj hk ho hu hc hz hv
    obtain ⟨k, rfl⟩ : ∃ m, k = m + 1 := ⟨k - 1, by omega⟩
    have rb := hy.rd j
    have ro := hu.rd (i + j)
    have mb := mul_bound ha rb
    simp only [assayerref1_Mul.l1]
    rw [if_pos (by omega), w64 (x := (i : Int) + (j : Int)) (by omega) (by omega), if_pos (by omega), if_pos (by omega), if_pos (by omega), if_pos (by omega), if_pos (by omega), w64 (x := (j : Int) + 1) (by omega) (by omega), show (j : Int) + 1 = ((j + 1 : Nat) : Int) by omega, show ((i : Int) + (j : Int)) = ((i + j : Nat) : Int) by omega, Int.toNat_natCast]
    have e : IntKind.u64.wrap ((IntKind.u64.wrap ((c : Int) + (IntKind.u64.wrap (rd out ((i + j : Nat) : Int))))) + (IntKind.u64.wrap ((IntKind.u64.wrap (rd x (i : Int))) * (IntKind.u64.wrap (rd y (j : Int)))))) = ((c + ((rd x (i : Int)).toNat * (rd y (j : Int)).toNat + (rd out ((i + j : Nat) : Int)).toNat) : Nat) : Int) := by
      rw [wraps_u64 (rd x (i : Int)) (by omega) (by omega), wraps_u64 (rd y (j : Int)) (by omega) (by omega), wraps_u64 (rd x (i : Int) * rd y (j : Int)) (by omega) (by omega), wraps_u64 (rd out ((i + j : Nat) : Int)) (by omega) (by omega), wraps_u64 ((c : Int) + rd out ((i + j : Nat) : Int)) (by omega) (by omega), wraps_u64 _ (by omega) (by omega), Int.natCast_add c, Int.natCast_add ((rd x (i : Int)).toNat * _), Int.natCast_mul, Int.toNat_of_nonneg rb.1, Int.toNat_of_nonneg ha.1, Int.toNat_of_nonneg ro.1]
      omega
    rw [e]
    have hb : (rd x (i : Int)).toNat * (rd y (j : Int)).toNat ≤ 18446744065119617025 := by
      have : (((rd x (i : Int)).toNat * (rd y (j : Int)).toNat : Nat) : Int) ≤ 18446744065119617025 := by
        rw [Int.natCast_mul, Int.toNat_of_nonneg rb.1, Int.toNat_of_nonneg ha.1]; exact mb.2
      omega
    have hset := fun v => val_set (l := out) (i + j) (by omega) v
    have hyt := val_take_succ (l := y) j (by omega)
    rw [Nat.pow_add] at hv hset
    generalize hs : c + ((rd x (i : Int)).toNat * (rd y (j : Int)).toNat + (rd out ((i + j : Nat) : Int)).toNat) = s at *
    rw [show ((s : Nat) : Int) % 4294967296 = ((s % 4294967296 : Nat) : Int) by omega, show ((s : Nat) : Int) / 4294967296 = ((s / 4294967296 : Nat) : Int) by omega]
    refine ih (j + 1) _ _ k (by omega) (by omega) (by rw [List.length_set]; omega) (hu.set _ (by omega)) (by omega) (by rw [rd_set_ne _ _ _ (by omega)]; exact hz) ?_
    have st := mul_step (val out) (V + 4294967296 ^ i * ((rd x (i : Int)).toNat * val (y.take j))) 0 (4294967296 ^ i * 4294967296 ^ j) (rd x (i : Int)).toNat (rd y (j : Int)).toNat c _ s _ (by rw [Nat.mul_zero, Nat.add_zero]; exact hv) hs.symm (by have := hset ((s % 4294967296 : Nat) : Int); rw [Int.toNat_natCast] at this; exact this)
    rw [← Nat.add_assoc, Nat.pow_succ, Nat.pow_add, hyt, st, Nat.zero_add]
    grind
set_option maxRecDepth 4000 in
theorem rmul_outer (x y : List Int) (hx : U x) (hy : U y) (hlx : x.length ≤ 100) (hly : y.length ≤ 100) (d : Nat) : ∀ (i : Nat) (out : List Int) (k : Nat), i + d = x.length → 102 * d + 310 < k → out.length = x.length + y.length + 1 → U out →
    val out = val (x.take i) * val y →
    assayerref1_Mul.l0 k x y out (i : Int) = some (limbs (val x * val y)) := by
  induction d with
  | zero =>
    intro i out k hi hk ho hu hv
    obtain ⟨k, rfl⟩ : ∃ m, k = m + 1 := ⟨k - 1, by omega⟩
    simp only [assayerref1_Mul.l0]
    rw [if_neg (by omega), norm_ok _ hu (by omega) k (by omega), Option.bind_some, hv, take_all i (by omega)]
  | succ d ih =>
    intro i out k hi hk ho hu hv
    obtain ⟨k, rfl⟩ : ∃ m, k = m + 1 := ⟨k - 1, by omega⟩
    simp only [assayerref1_Mul.l0]
    rw [if_pos (by omega)]
    have hxt := val_take_succ (l := x) i (by omega)
    have hz : rd out ((i + y.length : Nat) : Int) = 0 := by
      apply val_zero_top hu
      have h1 := val_lt (hx.take i)
      rw [List.length_take, Nat.min_eq_left (by omega)] at h1
      have h2 := val_lt hy
      rw [hv, Nat.pow_add]
      exact Nat.mul_lt_mul'' h1 h2
    have hK : y.length + (102 * d + 311) < k := by omega
    have hn : ∀ k' : Nat, 102 * d + 311 ≤ k' → 102 * d + 310 < k' := fun k' h => by omega
    generalize 102 * d + 311 = K at hK hn
    have next := fun (out' : List Int) (k' : Nat) (ho' : out'.length = x.length + y.length + 1) (hu' : U out') (hv' : val out' = val out + 4294967296 ^ i * ((rd x (i : Int)).toNat * val y)) (hk' : K ≤ k') => ih (i + 1) out' k' (by omega) (hn k' hk') ho' hu' (by rw [hv', hxt, hv, Nat.add_mul, Nat.mul_assoc])
    exact rmul_inner x y hx hy hlx hly i (by omega) (val out) _ K next y.length 0 0 out k (by omega) hK ho hu (by decide) hz (by rw [List.take_zero, val, Nat.mul_zero, Nat.mul_zero, Nat.mul_zero])
theorem rmul_ok (x y : List Int) (hx : U x) (hy : U y) (lx : x.length ≤ 100) (ly : y.length ≤ 100) (k : Nat) (hk : 10600 < k) : assayerref1_Mul.f k x y = some (limbs (val x * val y)) := by
  unfold assayerref1_Mul.f
  rw [w64 (x := (x.length : Int) + (y.length : Int)) (by omega) (by omega), w64 (by omega) (by omega), if_pos (by omega), if_pos (by omega), show ((x.length : Int) + (y.length : Int) + 1).toNat = x.length + y.length + 1 by omega]
  exact rmul_outer x y hx hy lx ly x.length 0 _ k (by omega) (by omega) (by rw [List.length_replicate]) (U.rep _) (by rw [val_rep]; simp [val])

theorem rlow_ok (L : List Int) (h : U L) : assayerref1_Low.f L = some ((val L % 18446744073709551616 : Nat) : Int) := by
  have r0 := h.rd 0
  have r1 := h.rd 1
  have u0 := U_bound h 0
  have u1 := U_bound h 1
  rw [Nat.pow_zero, Nat.div_one] at u0
  rw [Nat.pow_one] at u1
  have a0 := at_ok L h 0
  have a1 := at_ok L h 1
  rw [show ((0 : Nat) : Int) = 0 from rfl] at a0 r0 u0
  rw [show ((1 : Nat) : Int) = 1 from rfl] at a1 r1 u1
  unfold assayerref1_Low.f
  rw [a0, Option.bind_some, a1, Option.bind_some, wraps_u64 _ (by omega) (by omega), show rd L 0 = (((rd L 0).toNat : Nat) : Int) by omega, show rd L 1 * 4294967296 = ((2 ^ 32 * (rd L 1).toNat : Nat) : Int) by omega, or_u64 _ _ (by omega) (by omega), Nat.or_comm, ← Nat.two_pow_add_eq_or_of_lt (by omega)]
  congr 1
  omega
theorem rbits_loop (L : List Int) (h : U L) (n : Nat) : ∀ k, n ≤ 1000000 → n < k → val L < 2 ^ n → assayerref1_Bits.l0 k L (n : Int) = some (nb (val L) : Int) := by
  induction n with
  | zero =>
    intro k _ hk hv
    obtain ⟨k, rfl⟩ : ∃ m, k = m + 1 := ⟨k - 1, by omega⟩
    simp only [assayerref1_Bits.l0]
    rw [if_neg (by omega)]
    have : nb (val L) = 0 := by have := nb_le.mpr hv; omega
    rw [this]
  | succ n ih =>
    intro k hn hk hv
    obtain ⟨k, rfl⟩ : ∃ m, k = m + 1 := ⟨k - 1, by omega⟩
    simp only [assayerref1_Bits.l0]
    rw [if_pos (by omega), w64 (by omega) (by omega), show ((n + 1 : Nat) : Int) - 1 = (n : Int) by omega, rbit_ok L h n (by omega), Option.bind_some]
    have hq : val L / 2 ^ n < 2 := by rw [Nat.div_lt_iff_lt_mul (Nat.pow_pos (by decide)), Nat.mul_comm, ← Nat.pow_succ]; exact hv
    by_cases c : val L / 2 ^ n = 0
    · rw [c, if_pos (by decide)]
      have : val L < 2 ^ n := by
        by_cases c2 : val L < 2 ^ n
        · exact c2
        · have := Nat.div_pos (show 2 ^ n ≤ val L by omega) (Nat.pow_pos (by decide))
          omega
      exact ih k (by omega) (by omega) this
    · have hne : ¬ (((val L / 2 ^ n % 2 : Nat) : Int) = 0) := by
        generalize val L / 2 ^ n = Q at *
        omega
      rw [if_neg hne]
      have h2 : 2 ^ n ≤ val L := by
        by_cases c2 : 2 ^ n ≤ val L
        · exact c2
        · exact absurd (Nat.div_eq_of_lt (by omega)) c
      have h3 := lt_nb.mpr h2
      have h4 := nb_le.mpr hv
      rw [show nb (val L) = n + 1 by omega]
theorem rbits_ok (L : List Int) (h : U L) (hl : L.length ≤ 1000) (k : Nat) (hk : 33000 < k) : assayerref1_Bits.f k L = some (nb (val L) : Int) := by
  unfold assayerref1_Bits.f
  have e1 := limbs_len_val h
  rw [norm_ok L h (by omega) k (by omega), Option.bind_some, w64 (by omega) (by omega), show 32 * ((limbs (val L)).length : Int) = ((32 * (limbs (val L)).length : Nat) : Int) by omega]
  have lt := val_lt (U_limbs (val L))
  rw [pow32] at lt
  have := rbits_loop (limbs (val L)) (U_limbs _) _ k (by omega) (by omega) lt
  rw [val_limbs] at this
  exact this

theorem mod_next (X i : Nat) : X % 2 ^ (i + 1) = X % 2 ^ i + 2 ^ i * (X / 2 ^ i % 2) := by rw [Nat.pow_succ, Nat.mod_mul]
theorem entry_high {l : List Int} (h : U l) (p : Nat) (hz : val l < 2 ^ p) : (rd l ((p / 32 : Nat) : Int)).toNat < 2 ^ (p % 32) := by
  rw [← U_bound h]
  have : val l / 4294967296 ^ (p / 32) < 2 ^ (p % 32) := by
    rw [Nat.div_lt_iff_lt_mul (pow_pos_ _), Nat.mul_comm, ← pow_parts]; exact hz
  exact Nat.lt_of_le_of_lt (Nat.mod_le _ _) this
theorem bit_up (q : List Int) (hq : U q) (i : Nat) (hi : i / 32 < q.length) (hz : val q < 2 ^ i) :
    ∃ v : Int, Go.bits .or .u32 (rd q ((i / 32 : Nat) : Int)) (shl .u32 1 ((i % 32 : Nat) : Int)) = v ∧ 0 ≤ v ∧ v < 4294967296 ∧ val (q.set (i / 32) v) = val q + 2 ^ i := by
  have r := hq.rd (i / 32)
  have hs : i % 32 < 32 := by omega
  have h1 : 2 ^ (i % 32) ≤ 2 ^ 31 := Nat.pow_le_pow_right (by decide) (by omega)
  have lo := entry_high hq i hz
  have e1 : shl .u32 1 ((i % 32 : Nat) : Int) = ((2 ^ (i % 32) : Nat) : Int) := by
    unfold shl
    rw [Int.toNat_natCast, Nat.min_eq_left (by simp only [IntKind.bits]; omega), Int.one_mul]
    have e : ((2 : Int) ^ (i % 32)) = ((2 ^ (i % 32) : Nat) : Int) := by rw [Int.natCast_pow]; rfl
    rw [e, wraps_u32 _ (by omega) (by omega)]
  have or_ : (rd q ((i / 32 : Nat) : Int)).toNat ||| 2 ^ (i % 32) = (rd q ((i / 32 : Nat) : Int)).toNat + 2 ^ (i % 32) := by
    have := Nat.two_pow_add_eq_or_of_lt lo 1
    rw [Nat.mul_one] at this
    rw [Nat.or_comm, ← this, Nat.add_comm]
  have e2 : Go.bits .or .u32 (rd q ((i / 32 : Nat) : Int)) (shl .u32 1 ((i % 32 : Nat) : Int)) = (((rd q ((i / 32 : Nat) : Int)).toNat + 2 ^ (i % 32) : Nat) : Int) := by
    rw [e1, rd_nat hq, or_u32 _ _ (by omega) (by omega), Int.toNat_natCast, or_]
  refine ⟨_, e2, by omega, by omega, ?_⟩
  have st := val_set (l := q) (i / 32) hi (((rd q ((i / 32 : Nat) : Int)).toNat + 2 ^ (i % 32) : Nat) : Int)
  rw [Int.toNat_natCast, Nat.mul_add] at st
  rw [pow_parts i]
  omega
/-- so many low bits of a number, so many places up or down -/
def low (X i : Nat) (n : Int) : Nat := shN (X % 2 ^ i) n
theorem low_lt (X i : Nat) (n : Int) (h : 0 ≤ (i : Int) + n) : low X i n < 2 ^ ((i : Int) + n).toNat := by
  unfold low shN
  have lt : X % 2 ^ i < 2 ^ i := Nat.mod_lt _ (Nat.pow_pos (by decide))
  by_cases c : n < 0
  · rw [if_pos c, Nat.div_lt_iff_lt_mul (Nat.pow_pos (by decide)), ← Nat.pow_add, show ((i : Int) + n).toNat + (-n).toNat = i by omega]
    exact lt
  · rw [if_neg c, show ((i : Int) + n).toNat = i + n.toNat by omega, Nat.pow_add]
    exact Nat.mul_lt_mul_of_pos_right lt (Nat.pow_pos (by decide))
theorem low_zero (X i : Nat) (n : Int) (h : X / 2 ^ i % 2 = 0) : low X (i + 1) n = low X i n := by
  unfold low
  rw [mod_next, h, Nat.mul_zero, Nat.add_zero]
theorem low_one (X i : Nat) (n : Int) (h : X / 2 ^ i % 2 = 1) (hn : 0 ≤ (i : Int) + n) : low X (i + 1) n = low X i n + 2 ^ ((i : Int) + n).toNat := by
  unfold low shN
  rw [mod_next, h, Nat.mul_one]
  by_cases c : n < 0
  · rw [if_pos c, if_pos c]
    have e : 2 ^ i = 2 ^ (-n).toNat * 2 ^ ((i : Int) + n).toNat := by rw [← Nat.pow_add]; congr 1; omega
    conv => lhs; rw [e]
    rw [Nat.add_mul_div_left _ _ (Nat.pow_pos (by decide))]
    rw [← e]
  · rw [if_neg c, if_neg c, Nat.add_mul, ← Nat.pow_add, show i + n.toNat = ((i : Int) + n).toNat by omega]
theorem low_under (X i : Nat) (n : Int) (hn : (i : Int) + n < 0) : low X (i + 1) n = low X i n := by
  unfold low shN
  have l1 : X % 2 ^ i < 2 ^ i := Nat.mod_lt _ (Nat.pow_pos (by decide))
  have l2 : X % 2 ^ (i + 1) < 2 ^ (i + 1) := Nat.mod_lt _ (Nat.pow_pos (by decide))
  have p1 : 2 ^ (i + 1) ≤ 2 ^ (-n).toNat := Nat.pow_le_pow_right (by decide) (by omega)
  have p2 : 2 ^ i ≤ 2 ^ (i + 1) := Nat.pow_le_pow_right (by decide) (by omega)
  rw [if_pos (by omega), if_pos (by omega), Nat.div_eq_of_lt (by omega), Nat.div_eq_of_lt (by omega)]
theorem rshl_loop (x : List Int) (hx : U x) (lx : x.length ≤ 100) (n : Int) (h0 : -20000 ≤ n) (h1 : n ≤ 20000) (N : Nat) (hN : (N : Int) = x.length + n.toNat / 32 + 1) (d : Nat) : ∀ (i : Nat) (out : List Int) (k : Nat), i + d = 32 * x.length → d + 1010 < k → out.length = N → U out → val out = low (val x) i n →
    assayerref1_Shl.l0 k x n out (i : Int) = some (limbs (shN (val x) n)) := by
  induction d with
  | zero =>
    intro i out k hi hk ho hu hv
    obtain ⟨k, rfl⟩ : ∃ m, k = m + 1 := ⟨k - 1, by omega⟩
    have lt := val_lt hx
    rw [pow32, show 32 * x.length = i by omega] at lt
    simp only [assayerref1_Shl.l0]
    rw [w64 (x := 32 * (x.length : Int)) (by omega) (by omega), if_neg (by omega), norm_ok out hu (by omega) k (by omega), Option.bind_some, hv, low, Nat.mod_eq_of_lt lt]
  | succ d ih =>
    intro i out k hi hk ho hu hv
    obtain ⟨k, rfl⟩ : ∃ m, k = m + 1 := ⟨k - 1, by omega⟩
    simp only [assayerref1_Shl.l0]
    rw [w64 (x := 32 * (x.length : Int)) (by omega) (by omega), if_pos (by omega), rbit_ok x hx i (by omega), Option.bind_some, w64 (x := (i : Int) + n) (by omega) (by omega), w64 (x := (i : Int) + 1) (by omega) (by omega), show (i : Int) + 1 = ((i + 1 : Nat) : Int) by omega]
    have hb2 : val x / 2 ^ i % 2 = 0 ∨ val x / 2 ^ i % 2 = 1 := by omega
    rcases hb2 with hb | hb
    · rw [hb, if_neg (by decide)]
      exact ih (i + 1) out k (by omega) (by omega) ho hu (by rw [low_zero _ _ _ hb]; exact hv)
    · rw [hb, if_pos (by decide)]
      by_cases c : (i : Int) + n < 0
      · rw [if_neg (by omega)]
        exact ih (i + 1) out k (by omega) (by omega) ho hu (by rw [low_under _ _ _ c]; exact hv)
      · obtain ⟨p, hp⟩ : ∃ p : Nat, (i : Int) + n = (p : Int) := ⟨((i : Int) + n).toNat, by omega⟩
        have lt := low_lt (val x) i n (by omega)
        have one := low_one (val x) i n hb (by omega)
        rw [hp, Int.toNat_natCast] at lt one
        rw [← hv] at lt
        obtain ⟨v, hv1, hv2, hv3, hv4⟩ := bit_up out hu p (by omega) lt
        rw [hp, if_pos (by omega), tdiv32, tmod32, w64 (by omega) (by omega), if_pos (by omega), if_pos (by omega), if_pos (by omega), hv1, Int.toNat_natCast]
        exact ih (i + 1) _ k (by omega) (by omega) (by rw [List.length_set]; exact ho) (hu.set _ ⟨hv2, hv3⟩) (by rw [hv4, one, hv])
theorem rshl_ok (x : List Int) (hx : U x) (lx : x.length ≤ 100) (n : Int) (h0 : -20000 ≤ n) (h1 : n ≤ 20000) (k : Nat) (hk : 4300 < k) : assayerref1_Shl.f k x n = some (limbs (shN (val x) n)) := by
  have l0 : ∀ m : Nat, val (List.replicate m 0) = low (val x) 0 n := fun m => by
    rw [val_rep]
    unfold low shN
    rw [Nat.pow_zero, Nat.mod_one]
    by_cases c : n < 0
    · rw [if_pos c, Nat.zero_div]
    · rw [if_neg c, Nat.zero_mul]
  have hm : mx n 0 = ((n.toNat : Nat) : Int) := by unfold mx; by_cases c : n < 0 <;> simp [c] <;> omega
  unfold assayerref1_Shl.f
  rw [hm, tdiv32, w64 (x := ((n.toNat / 32 : Nat) : Int)) (by omega) (by omega), w64 (x := (x.length : Int) + ((n.toNat / 32 : Nat) : Int)) (by omega) (by omega), w64 (by omega) (by omega), if_pos (by omega), if_pos (by omega), show ((x.length : Int) + ((n.toNat / 32 : Nat) : Int) + 1).toNat = x.length + n.toNat / 32 + 1 by omega]
  exact rshl_loop x hx lx n h0 h1 (x.length + n.toNat / 32 + 1) (by omega) (32 * x.length) 0 _ k (by omega) (by omega) (by rw [List.length_replicate]) (U.rep _) (l0 _)

theorem rdiv_loop (t y : List Int) (ht : U t) (hy : U y) (hlt : t.length ≤ 100) (hly : y.length ≤ 100) (m : Nat) : ∀ (q : List Int) (R k : Nat), m ≤ 32 * t.length → m + 9000 < k → q.length = t.length + 1 → U q → R < val y →
    val t / 2 ^ m = val q / 2 ^ m * val y + R → val q % 2 ^ m = 0 →
    assayerref1_Div.l0 k t y q (limbs R) ((m : Int) - 1) = some (limbs (val t / val y), limbs (val t % val y), true) := by
  induction m with
  | zero =>
    intro q R k hm hk hl hq hR hv hz
    obtain ⟨k, rfl⟩ : ∃ j, k = j + 1 := ⟨k - 1, by omega⟩
    simp only [assayerref1_Div.l0]
    rw [if_neg (by omega), norm_ok q hq (by omega) k (by omega), Option.bind_some]
    rw [Nat.pow_zero, Nat.div_one, Nat.div_one] at hv
    have h1 : val t / val y = val q := by rw [hv, Nat.add_comm, Nat.add_mul_div_right _ _ (by omega), Nat.div_eq_of_lt hR, Nat.zero_add]
    have h2 : val t % val y = R := by rw [hv, Nat.add_comm, Nat.add_mul_mod_self_right, Nat.mod_eq_of_lt hR]
    rw [h1, h2]
  | succ i ih =>
    intro q R k hm hk hl hq hR hv hz
    obtain ⟨k, rfl⟩ : ∃ j, k = j + 1 := ⟨k - 1, by omega⟩
    have lR : (limbs R).length ≤ 100 := Nat.le_trans (limbs_len_le.mpr (Nat.lt_trans hR (val_lt hy))) hly
    obtain ⟨v, hv1, hv2, hv3, hv4⟩ := bit_put q hq i (by omega) hz
    have dv := div_step (val t) (val y) (val q) R _ i hv hz rfl
    have l2 : ∀ S, S < 2 * val y → (limbs S).length ≤ 101 := by
      intro S hS
      apply limbs_len_le.mpr
      have h1 := val_lt hy
      have h2 : (4294967296 : Nat) ^ y.length ≤ 4294967296 ^ 100 := Nat.pow_le_pow_right (by decide) hly
      rw [Nat.pow_succ]
      omega
    have hb : val t / 2 ^ i % 2 ≤ 1 := by omega
    generalize hbb : val t / 2 ^ i % 2 = b at *
    have l3 := l2 (R + R) (by omega)
    have l4 := l2 (R + R + b) (by omega)
    have lb : (limbs b).length ≤ 1 := limbs_len_le.mpr (by omega)
    simp only [assayerref1_Div.l0]
    rw [show ((i + 1 : Nat) : Int) - 1 = (i : Int) by omega, if_pos (by omega), radd_ok _ _ (U_limbs R) (U_limbs R) (by omega) (by omega) k (by omega), Option.bind_some, val_limbs, rbit_ok t ht i (by omega), Option.bind_some, hbb, rof_ok _ (by omega) (by omega) k (by omega), Option.bind_some, Int.toNat_natCast, radd_ok _ _ (U_limbs _) (U_limbs _) (by omega) (by omega) k (by omega), Option.bind_some, val_limbs, val_limbs, rsub_ok _ _ (U_limbs _) hy (by omega) (by omega) k (by omega), Option.bind_some, val_limbs, w64 (x := (i : Int) - 1) (by omega) (by omega), tdiv32, tmod32, w64 (x := ((i / 32 : Nat) : Int)) (by omega) (by omega)]
    rw [show 2 * R + b = R + R + b by omega] at dv
    by_cases c : R + R + b < val y
    · rw [if_pos c, if_neg (by decide)]
      exact ih q _ k (by omega) (by omega) hl hq c dv.1 dv.2
    · have dp := div_put (val t) (val y) (val q) _ i dv.1 dv.2 (by omega)
      rw [← hv4] at dp
      rw [if_neg c, if_pos (show (limbs (R + R + b - val y), true).snd = true from rfl), if_pos (by omega), if_pos (by omega), if_pos (by omega), hv1, Int.toNat_natCast]
      exact ih _ _ k (by omega) (by omega) (by rw [List.length_set]; exact hl) (hq.set _ ⟨hv2, hv3⟩) (by omega) dp.1 dp.2
theorem rdiv_ok (x y : List Int) (hx : U x) (hy : U y) (lx : x.length ≤ 100) (ly : y.length ≤ 100) (k : Nat) (hk : 12300 < k) :
    assayerref1_Div.f k x y = some (if val y = 0 then ([], [], false) else (limbs (val x / val y), limbs (val x % val y), true)) := by
  unfold assayerref1_Div.f
  have e2 := limbs_len_val hy
  rw [norm_ok y hy (by omega) k (by omega), Option.bind_some]
  by_cases c : val y = 0
  · rw [if_pos c, c, limbs_zero, if_pos (by simp)]
  · have hp : (limbs (val y)).length ≠ 0 := fun e => c (limbs_len0.mp e)
    have lt := val_lt hx
    rw [pow32] at lt
    rw [if_neg c, if_neg (by omega), w64 (x := (x.length : Int) + 1) (by omega) (by omega), if_pos (by omega), if_pos (by omega), w64 (x := 32 * (x.length : Int)) (by omega) (by omega), w64 (by omega) (by omega), show ((x.length : Int) + 1).toNat = x.length + 1 by omega, show 32 * (x.length : Int) - 1 = ((32 * x.length : Nat) : Int) - 1 by omega]
    have := rdiv_loop x y hx hy (by omega) (by omega) (32 * x.length) (List.replicate (x.length + 1) 0) 0 k (Nat.le_refl _) (by omega) (by rw [List.length_replicate]) (U.rep _) (by omega) (by rw [val_rep, Nat.div_eq_of_lt lt]; simp) (by rw [val_rep]; simp)
    rw [limbs_zero] at this
    exact this
end Go.Proofs.Ytgejdfhfgphcbaa.Big
