/- Package big's Low, times, Ten, Mul, by what their lists are worth. Lists of up to 100 entries. -/
import Derived.Test.YtgejdfhfgphcbaaBigOps
namespace Go.Proofs.Ytgejdfhfgphcbaa.Big
open Go.RowKit Go.Proofs.Ytgejdfhfgphcbaa.PBig Go.Proofs.YtgejdfhfgphcbaaW.PrintWords Go.Proofs.YtgejdfhfgphcbaaW.PrintLast Go.Proofs.YtgejdfhfgphcbaaW.PrintMore Go.Proofs.Ytgejdfhfgphcbaa.Aid

theorem or_u64 (a b : Nat) (ha : a < 2 ^ 64) (hb : b < 2 ^ 64) : Go.bits .or .u64 (a : Int) (b : Int) = ((a ||| b : Nat) : Int) := (bits_nat .u64 64 (by decide) wraps_u64 a b ha hb).2
theorem low_loop (L : List Int) (h : U L) (n : Nat) (hn : n ≤ 2) (hl : n ≤ L.length) (d : Nat) : ∀ (i k : Nat), i + d = n → d < k →
    big_Low.l0 k L ((val (L.take i) : Nat) : Int) (n : Int) (i : Int) = some ((val (L.take n) : Nat) : Int) := by
  induction d with
  | zero =>
    intro i k hi hk
    obtain ⟨k, rfl⟩ : ∃ m, k = m + 1 := ⟨k - 1, by omega⟩
    simp only [big_Low.l0]
    rw [if_neg (by omega), show i = n by omega]
  | succ d ih =>
    intro i k hi hk
    obtain ⟨k, rfl⟩ : ∃ m, k = m + 1 := ⟨k - 1, by omega⟩
    have r := h.rd i
    have t := val_take_succ (l := L) i (by omega)
    simp only [big_Low.l0]
    rw [if_pos (by omega), if_pos (by omega), if_pos (by omega), w64 (x := 32 * (i : Int)) (by omega) (by omega), if_pos (by omega), w64 (x := (i : Int) + 1) (by omega) (by omega), wraps_u64 _ (by omega) (by omega), show (i : Int) + 1 = ((i + 1 : Nat) : Int) by omega]
    have e : Go.bits .or .u64 ((val (L.take i) : Nat) : Int) (shl .u64 (rd L (i : Int)) (32 * (i : Int))) = ((val (L.take (i + 1)) : Nat) : Int) := by
      rw [t]
      obtain rfl | rfl : i = 0 ∨ i = 1 := by omega
      · have : shl .u64 (rd L ((0 : Nat) : Int)) (32 * ((0 : Nat) : Int)) = (((rd L ((0 : Nat) : Int)).toNat : Nat) : Int) := by
          unfold shl
          rw [show (32 * ((0 : Nat) : Int)).toNat = 0 by decide, Nat.zero_min, Int.pow_zero, Int.mul_one, wraps_u64 _ (by omega) (by omega)]
          omega
        rw [this, List.take_zero, or_u64 _ _ (by decide) (by omega)]
        simp [val]
      · have : shl .u64 (rd L ((1 : Nat) : Int)) (32 * ((1 : Nat) : Int)) = ((2 ^ 32 * (rd L ((1 : Nat) : Int)).toNat : Nat) : Int) := by
          unfold shl
          rw [show (32 * ((1 : Nat) : Int)).toNat = 32 by decide, Nat.min_eq_left (by decide), wraps_u64 _ (by omega) (by omega)]
          omega
        have lt := val_lt (h.take 1)
        rw [List.length_take, Nat.min_eq_left (by omega), Nat.pow_one] at lt
        rw [this, or_u64 _ _ (by omega) (by omega), Nat.or_comm, ← Nat.two_pow_add_eq_or_of_lt lt, Nat.add_comm, Nat.pow_one]
    rw [e]
    exact ih (i + 1) k (by omega) (by omega)
theorem low_ok (L : List Int) (h : U L) (k : Nat) (hk : 3 < k) : big_Low.f k L = some ((val L % 18446744073709551616 : Nat) : Int) := by
  have e : val L % 18446744073709551616 = val (L.take 2) := by
    rw [val_split L 2]
    have lt := val_lt (h.take 2)
    have : (4294967296 : Nat) ^ (L.take 2).length ≤ 4294967296 ^ 2 := Nat.pow_le_pow_right (by decide) (by rw [List.length_take]; omega)
    rw [show (18446744073709551616 : Nat) = 4294967296 ^ 2 by decide, Nat.add_mul_mod_self_left, Nat.mod_eq_of_lt (by omega)]
  rw [e]
  have go : ∀ n : Nat, n ≤ 2 → n ≤ L.length → big_Low.l0 k L 0 (n : Int) 0 = some ((val (L.take n) : Nat) : Int) := by
    intro n h1 h2
    have := low_loop L h n h1 h2 n 0 k (by omega) (by omega)
    rwa [List.take_zero] at this
  unfold big_Low.f
  (try unfold mn)
  by_cases c : 2 < L.length
  · rw [if_pos (by omega)]; exact go 2 (by omega) (by omega)
  · rw [if_neg (by omega)]
    have := go L.length (by omega) (by omega)
    rw [take_all (l := L) L.length (by omega)] at this
    rw [this, take_all (l := L) 2 (by omega)]

theorem mul_bound {a b : Int} (ha : 0 ≤ a ∧ a < 4294967296) (hb : 0 ≤ b ∧ b < 4294967296) : 0 ≤ a * b ∧ a * b ≤ 18446744065119617025 :=
  ⟨Int.mul_nonneg ha.1 hb.1, by
    have := Int.mul_le_mul (show a ≤ 4294967295 by omega) (show b ≤ 4294967295 by omega) hb.1 (by decide)
    omega⟩
theorem times_loop (x : List Int) (hx : U x) (hl : x.length ≤ 1000) (y : Int) (hy : 0 ≤ y ∧ y < 4294967296) (d : Nat) : ∀ (i c : Nat) (out : List Int) (k : Nat), i + d = x.length → d + 1010 < k → out.length = i → U out → c < 4294967296 →
    val out + 4294967296 ^ i * c = val (x.take i) * y.toNat →
    big_times.l0 k y out (c : Int) x (x.length : Int) (i : Int) = some (limbs (val x * y.toNat)) := by
  induction d with
  | zero =>
    intro i c out k hi hk ho hu hc hv
    obtain ⟨k, rfl⟩ : ∃ m, k = m + 1 := ⟨k - 1, by omega⟩
    simp only [big_times.l0]
    rw [if_neg (by omega), if_pos (by omega), cut_ok _ (hu.snoc (by omega)) (by rw [List.length_append, List.length_singleton]; omega) k (by rw [List.length_append, List.length_singleton]; omega), Option.bind_some, val_close _ _ (by omega), ho, hv, take_all i (by omega)]
  | succ d ih =>
    intro i c out k hi hk ho hu hc hv
    obtain ⟨k, rfl⟩ : ∃ m, k = m + 1 := ⟨k - 1, by omega⟩
    have rx := hx.rd i
    have mb := mul_bound rx hy
    simp only [big_times.l0]
    rw [if_pos (by omega), if_pos (by omega), if_pos (by omega), if_pos (by omega), w64 (x := (i : Int) + 1) (by omega) (by omega), show (i : Int) + 1 = ((i + 1 : Nat) : Int) by omega]
    have hxt := val_take_succ (l := x) i (by omega)
    have e : IntKind.u64.wrap ((c : Int) + (IntKind.u64.wrap ((IntKind.u64.wrap (rd x (i : Int))) * (IntKind.u64.wrap y)))) = ((c + (rd x (i : Int)).toNat * y.toNat : Nat) : Int) := by
      rw [wraps_u64 (rd x (i : Int)) (by omega) (by omega), wraps_u64 y (by omega) (by omega), wraps_u64 (rd x (i : Int) * y) (by omega) (by omega), wraps_u64 _ (by omega) (by omega), Int.natCast_add, Int.natCast_mul, Int.toNat_of_nonneg rx.1, Int.toNat_of_nonneg hy.1]
    rw [e]
    have hb : (rd x (i : Int)).toNat * y.toNat ≤ 18446744065119617025 := by
      have : (((rd x (i : Int)).toNat * y.toNat : Nat) : Int) ≤ 18446744065119617025 := by
        rw [Int.natCast_mul, Int.toNat_of_nonneg rx.1, Int.toNat_of_nonneg hy.1]; exact mb.2
      omega
    have st := sum_step out c (val (x.take i) * y.toNat) 0 ((rd x (i : Int)).toNat * y.toNat) 0 _ (by rw [ho]; exact hv) rfl
    rw [Nat.add_zero, Nat.mul_zero, Nat.add_zero] at st
    generalize hs : c + (rd x (i : Int)).toNat * y.toNat = s at *
    rw [show ((s : Nat) : Int) % 4294967296 = ((s % 4294967296 : Nat) : Int) by omega, show ((s : Nat) : Int) / 4294967296 = ((s / 4294967296 : Nat) : Int) by omega]
    refine ih (i + 1) _ _ k (by omega) (by omega) (by rw [List.length_append, List.length_singleton]; omega) (hu.snoc (by omega)) (by omega) ?_
    rw [List.length_append, List.length_singleton, ho] at st
    rw [hxt, Nat.add_mul, st, Nat.mul_assoc]
theorem times_ok (x : List Int) (hx : U x) (hl : x.length ≤ 1000) (y : Int) (hy : 0 ≤ y ∧ y < 4294967296) (k : Nat) (hk : 2020 < k) : big_times.f k x y = some (limbs (val x * y.toNat)) := by
  unfold big_times.f
  rw [w64 (by omega) (by omega), if_pos (by omega), if_pos (by omega), List.replicate_zero]
  exact times_loop x hx hl y hy x.length 0 0 [] k (by omega) (by omega) rfl U.nil (by omega) (by simp [val])
set_option exponentiation.threshold 2000 in
theorem ten_loop (n : Nat) : ∀ (m k : Nat), n + m ≤ 1000 → 2100 + n < k → big_Ten.l0 k (n : Int) (limbs (10 ^ m)) = some (limbs (10 ^ (m + n))) := by
  induction n with
  | zero =>
    intro m k _ hk
    obtain ⟨k, rfl⟩ : ∃ j, k = j + 1 := ⟨k - 1, by omega⟩
    simp only [big_Ten.l0]
    rw [if_neg (by omega), Nat.add_zero]
  | succ n ih =>
    intro m k hm hk
    obtain ⟨k, rfl⟩ : ∃ j, k = j + 1 := ⟨k - 1, by omega⟩
    simp only [big_Ten.l0]
    have hl : (limbs (10 ^ m)).length ≤ 1000 := by
      apply limbs_len_le.mpr
      have h1 : (10 : Nat) ^ m ≤ 10 ^ 1000 := Nat.pow_le_pow_right (by decide) (by omega)
      have h2 : (10 : Nat) ^ 1000 < 4294967296 ^ 1000 := Nat.pow_lt_pow_left (by decide) (by decide)
      exact Nat.lt_of_le_of_lt h1 h2
    rw [if_pos (by omega), times_ok _ (U_limbs _) hl 10 (by decide) k (by omega), Option.bind_some, val_limbs, w64 (by omega) (by omega), show ((n + 1 : Nat) : Int) - 1 = (n : Int) by omega]
    have := ih (m + 1) k (by omega) (by omega)
    rw [Nat.pow_succ, show m + 1 + n = m + (n + 1) by omega] at this
    exact this
theorem ten_ok (n : Nat) (hn : n ≤ 1000) (k : Nat) (hk : 3200 < k) : big_Ten.f k (n : Int) = some (limbs (10 ^ n)) := by
  unfold big_Ten.f
  obtain ⟨k, rfl⟩ : ∃ j, k = j + 1 := ⟨k - 1, by omega⟩
  rw [if_neg (by omega)]
  simp only [big_Ten.j0]
  rw [if_neg (by simp; omega), of_ok 1 (by decide) (by decide) k (by omega), Option.bind_some]
  have := ten_loop n 0 k (by omega) (by omega)
  rw [Nat.zero_add] at this
  exact this
theorem ten_neg (a : Int) (h : a < 0) (k : Nat) (hk : 0 < k) : big_Ten.f k a = some [] := by
  unfold big_Ten.f
  obtain ⟨k, rfl⟩ : ∃ j, k = j + 1 := ⟨k - 1, by omega⟩
  rw [if_pos h]
  simp only [big_Ten.j0]
  rw [if_pos trivial]

theorem rd_set_ne {l : List Int} (p q : Nat) (v : Int) (h : p ≠ q) : rd (l.set p v) (q : Int) = rd l (q : Int) := by
  unfold Go.Proofs.YtgejdfhfgphcbaaW.PrintWords.rd
  rw [Int.toNat_natCast, List.getD_eq_getElem?_getD, List.getD_eq_getElem?_getD, List.getElem?_set_ne h]
theorem mul_step (V W Y P a b c o s v : Nat) (hv : V + P * c = W + P * Y) (hs : s = c + (a * b + o)) (hset : v + P * o = V + P * (s % 4294967296)) :
    v + P * 4294967296 * (s / 4294967296) = W + P * (Y + a * b) := by
  have e : P * (s % 4294967296) + P * 4294967296 * (s / 4294967296) = P * s := by
    rw [Nat.mul_assoc, ← Nat.mul_add, Nat.mod_add_div]
  have e2 : P * s = P * c + P * (a * b) + P * o := by subst hs; rw [Nat.mul_add, Nat.mul_add, Nat.add_assoc]
  rw [Nat.mul_add]
  omega
theorem mul_inner (x y : List Int) (hy : U y) (hlx : x.length ≤ 100) (hly : y.length ≤ 100) (i : Nat) (hi : i < x.length) (a : Int) (ha : 0 ≤ a ∧ a < 4294967296) (V : Nat) (R : Option (List Int)) (K : Nat)
    (next : ∀ (out : List Int) (k : Nat), out.length = x.length + y.length + 1 → U out → val out = V + 4294967296 ^ i * (a.toNat * val y) → K ≤ k → big_Mul.l0 k y out x (x.length : Int) ((i + 1 : Nat) : Int) = R)
    (d : Nat) : ∀ (j c : Nat) (out : List Int) (k : Nat), j + d = y.length → d + K < k → out.length = x.length + y.length + 1 → U out → c < 4294967296 → rd out ((i + y.length : Nat) : Int) = 0 →
    val out + 4294967296 ^ (i + j) * c = V + 4294967296 ^ i * (a.toNat * val (y.take j)) →
    big_Mul.l1 k y out (i : Int) a (c : Int) x (x.length : Int) (i : Int) y (y.length : Int) (j : Int) = R := by
  induction d with
  | zero =>
    intro j c out k hj hk ho hu hc hz hv
    obtain ⟨k, rfl⟩ : ∃ m, k = m + 1 := ⟨k - 1, by omega⟩
    simp only [big_Mul.l1]
    rw [if_neg (by omega), w64 (x := (i : Int) + (y.length : Int)) (by omega) (by omega), if_pos (by omega), if_pos (by omega), w64 (x := (i : Int) + 1) (by omega) (by omega), show (i : Int) + 1 = ((i + 1 : Nat) : Int) by omega, show ((i : Int) + (y.length : Int)) = ((i + y.length : Nat) : Int) by omega, Int.toNat_natCast]
    refine next _ k (by rw [List.length_set]; omega) (hu.set _ (by omega)) ?_ (by omega)
    have s := val_set (l := out) (i + y.length) (by omega) ((c : Int) % 4294967296)
    rw [hz, show ((c : Int) % 4294967296).toNat = c by omega] at s
    rw [take_all j (by omega), show j = y.length by omega] at hv
    rw [← hv, ← s]
    rfl
  | succ d ih =>
    intro j c out k hj hk ho hu hc hz hv
    obtain ⟨k, rfl⟩ : ∃ m, k = m + 1 := ⟨k - 1, by omega⟩
    have rb := hy.rd j
    have ro := hu.rd (i + j)
    have mb := mul_bound ha rb
    simp only [big_Mul.l1]
    rw [if_pos (by omega), if_pos (by omega), if_pos (by omega), w64 (x := (i : Int) + (j : Int)) (by omega) (by omega), if_pos (by omega), if_pos (by omega), w64 (x := (j : Int) + 1) (by omega) (by omega), show (j : Int) + 1 = ((j + 1 : Nat) : Int) by omega, show ((i : Int) + (j : Int)) = ((i + j : Nat) : Int) by omega, Int.toNat_natCast]
    have e : IntKind.u64.wrap ((c : Int) + (IntKind.u64.wrap ((IntKind.u64.wrap ((IntKind.u64.wrap a) * (IntKind.u64.wrap (rd y (j : Int))))) + (IntKind.u64.wrap (rd out ((i + j : Nat) : Int)))))) = ((c + (a.toNat * (rd y (j : Int)).toNat + (rd out ((i + j : Nat) : Int)).toNat) : Nat) : Int) := by
      rw [wraps_u64 a (by omega) (by omega), wraps_u64 (rd y (j : Int)) (by omega) (by omega), wraps_u64 (a * rd y (j : Int)) (by omega) (by omega), wraps_u64 (rd out ((i + j : Nat) : Int)) (by omega) (by omega), wraps_u64 (a * rd y (j : Int) + rd out ((i + j : Nat) : Int)) (by omega) (by omega), wraps_u64 _ (by omega) (by omega), Int.natCast_add c, Int.natCast_add (a.toNat * _), Int.natCast_mul, Int.toNat_of_nonneg rb.1, Int.toNat_of_nonneg ha.1, Int.toNat_of_nonneg ro.1]
    rw [e]
    have hb : a.toNat * (rd y (j : Int)).toNat ≤ 18446744065119617025 := by
      have : ((a.toNat * (rd y (j : Int)).toNat : Nat) : Int) ≤ 18446744065119617025 := by
        rw [Int.natCast_mul, Int.toNat_of_nonneg rb.1, Int.toNat_of_nonneg ha.1]; exact mb.2
      omega
    have hset := fun v => val_set (l := out) (i + j) (by omega) v
    have hyt := val_take_succ (l := y) j (by omega)
    rw [Nat.pow_add] at hv hset
    generalize hs : c + (a.toNat * (rd y (j : Int)).toNat + (rd out ((i + j : Nat) : Int)).toNat) = s at *
    rw [show ((s : Nat) : Int) % 4294967296 = ((s % 4294967296 : Nat) : Int) by omega, show ((s : Nat) : Int) / 4294967296 = ((s / 4294967296 : Nat) : Int) by omega]
    refine ih (j + 1) _ _ k (by omega) (by omega) (by rw [List.length_set]; omega) (hu.set _ (by omega)) (by omega) (by rw [rd_set_ne _ _ _ (by omega)]; exact hz) ?_
    have st := mul_step (val out) (V + 4294967296 ^ i * (a.toNat * val (y.take j))) 0 (4294967296 ^ i * 4294967296 ^ j) a.toNat (rd y (j : Int)).toNat c _ s _ (by rw [Nat.mul_zero, Nat.add_zero]; exact hv) hs.symm (by have := hset ((s % 4294967296 : Nat) : Int); rw [Int.toNat_natCast] at this; exact this)
    rw [← Nat.add_assoc, Nat.pow_succ, Nat.pow_add, hyt, st, Nat.zero_add]
    grind
set_option maxRecDepth 4000 in
theorem mul_outer (x y : List Int) (hx : U x) (hy : U y) (hlx : x.length ≤ 100) (hly : y.length ≤ 100) (d : Nat) : ∀ (i : Nat) (out : List Int) (k : Nat), i + d = x.length → 102 * d + 310 < k → out.length = x.length + y.length + 1 → U out →
    val out = val (x.take i) * val y →
    big_Mul.l0 k y out x (x.length : Int) (i : Int) = some (limbs (val x * val y)) := by
  induction d with
  | zero =>
    intro i out k hi hk ho hu hv
    obtain ⟨k, rfl⟩ : ∃ m, k = m + 1 := ⟨k - 1, by omega⟩
    simp only [big_Mul.l0]
    rw [if_neg (by omega), cut_ok _ hu (by omega) k (by omega), Option.bind_some, hv, take_all i (by omega)]
  | succ d ih =>
    intro i out k hi hk ho hu hv
    obtain ⟨k, rfl⟩ : ∃ m, k = m + 1 := ⟨k - 1, by omega⟩
    simp only [big_Mul.l0]
    rw [if_pos (by omega), if_pos (by omega), if_pos (by omega)]
    have hxt := val_take_succ (l := x) i (by omega)
    have hz : rd out ((i + y.length : Nat) : Int) = 0 := by
      apply val_zero_top hu
      have h1 := val_lt (hx.take i)
      rw [List.length_take, Nat.min_eq_left (by omega)] at h1
      have h2 := val_lt hy
      rw [hv, Nat.pow_add]
      exact Nat.mul_lt_mul'' h1 h2
    have hK : y.length + (102 * d + 311) < k := by omega
    have hn : ∀ k' : Nat, 102 * d + 311 ≤ k' → 102 * d + 310 < k' := fun k' h => by omega
    generalize 102 * d + 311 = K at hK hn
    have next := fun (out' : List Int) (k' : Nat) (ho' : out'.length = x.length + y.length + 1) (hu' : U out') (hv' : val out' = val out + 4294967296 ^ i * ((rd x (i : Int)).toNat * val y)) (hk' : K ≤ k') => ih (i + 1) out' k' (by omega) (hn k' hk') ho' hu' (by rw [hv', hxt, hv, Nat.add_mul, Nat.mul_assoc])
    exact mul_inner x y hy hlx hly i (by omega) (rd x (i : Int)) (hx.rd i) (val out) _ K next y.length 0 0 out k (by omega) hK ho hu (by decide) hz (by rw [List.take_zero, val, Nat.mul_zero, Nat.mul_zero, Nat.mul_zero])
theorem mul_ok (x y : List Int) (hx : U x) (hy : U y) (lx : x.length ≤ 100) (ly : y.length ≤ 100) (k : Nat) (hk : 10600 < k) : big_Mul.f k x y = some (limbs (val x * val y)) := by
  unfold big_Mul.f
  rw [w64 (x := (x.length : Int) + (y.length : Int)) (by omega) (by omega), w64 (by omega) (by omega), if_pos (by omega), if_pos (by omega), show ((x.length : Int) + (y.length : Int) + 1).toNat = x.length + y.length + 1 by omega]
  exact mul_outer x y hx hy lx ly x.length 0 _ k (by omega) (by omega) (by rw [List.length_replicate]) (U.rep _) (by rw [val_rep]; simp [val])
end Go.Proofs.Ytgejdfhfgphcbaa.Big
