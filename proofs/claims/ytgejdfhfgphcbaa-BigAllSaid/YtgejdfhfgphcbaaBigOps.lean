/- Package big's functions, by what their lists are worth: cut, Cmp, Sub, Add, Of, Low, times, Ten, Mul. Lists of up to 1000 entries. -/
import Derived.Test.YtgejdfhfgphcbaaPBigx6
import Derived.Test.YtgejdfhfgphcbaaBigPlain
namespace Go.Proofs.Ytgejdfhfgphcbaa.Big
open Go.RowKit Go.Proofs.Ytgejdfhfgphcbaa.PBig Go.Proofs.YtgejdfhfgphcbaaW.PrintWords Go.Proofs.YtgejdfhfgphcbaaW.PrintLast Go.Proofs.YtgejdfhfgphcbaaW.PrintMore Go.Proofs.Ytgejdfhfgphcbaa.Aid

theorem w64 {x : Int} (h0 : -9223372036854775808 ≤ x) (h1 : x ≤ 9223372036854775807) : wrap64 x = x := by unfold wrap64; omega
theorem getLast_take {L : List Int} (n : Nat) (hn : n < L.length) (h : L.take (n + 1) ≠ []) : (L.take (n + 1)).getLast h = rd L (n : Int) := by
  have e := take_rd n hn
  have : ∀ (a : List Int) (ha : a ≠ []), a = L.take n ++ [rd L (n : Int)] → a.getLast ha = rd L (n : Int) := by
    intro a ha e; subst e; simp
  exact this _ h e
theorem cut_loop (L : List Int) (h : U L) (hl : L.length ≤ 100000) (n : Nat) : ∀ k, n ≤ L.length → n < k → val (L.drop n) = 0 →
    big_cut.l0 k L (n : Int) = some (limbs (val L)) := by
  induction n with
  | zero =>
    intro k _ hk hz
    obtain ⟨k, rfl⟩ : ∃ m, k = m + 1 := ⟨k - 1, by omega⟩
    simp only [big_cut.l0]
    rw [if_neg (by omega), if_pos (by omega), if_pos (by omega), if_pos (by simp)]
    rw [List.drop_zero] at hz
    rw [hz, limbs_zero]
    rfl
  | succ n ih =>
    intro k hn hk hz
    obtain ⟨k, rfl⟩ : ∃ m, k = m + 1 := ⟨k - 1, by omega⟩
    simp only [big_cut.l0]
    rw [if_pos (by omega), w64 (x := ((n + 1 : Nat) : Int) - 1) (by omega) (by omega), show ((n + 1 : Nat) : Int) - 1 = (n : Int) by omega, if_pos (by omega), if_pos (by omega)]
    by_cases h0 : rd L (n : Int) = 0
    · rw [if_pos h0]
      refine ih k (by omega) (by omega) ?_
      rw [drop_rd n (by omega), val, hz, h0]
      rfl
    · rw [if_neg h0, if_pos (by omega), if_pos (by omega), Int.toNat_natCast, if_pos (by rw [List.length_take]; simp only [List.length_nil]; omega), List.nil_append]
      have e := val_split L (n + 1)
      rw [hz, Nat.mul_zero, Nat.add_zero] at e
      rw [e, limbs_of_top (h.take _)]
      intro hne
      rw [getLast_take n (by omega)]
      exact h0
theorem cut_ok (L : List Int) (h : U L) (hl : L.length ≤ 100000) (k : Nat) (hk : L.length < k) : big_cut.f k L = some (limbs (val L)) := by
  unfold big_cut.f
  exact cut_loop L h hl L.length k (Nat.le_refl _) hk (by rw [List.drop_length]; rfl)
theorem limbs_len_val {L : List Int} (h : U L) : (limbs (val L)).length ≤ L.length := limbs_len_le.mpr (val_lt h)

/-- which one is the lesser one -/
def cmp (m n : Nat) : Int := if m < n then -1 else if n < m then 1 else 0
theorem cmp_loop (a b : List Int) (ha : U a) (hb : U b) (hl : a.length = b.length) (hs : a.length ≤ 100000) (n : Nat) : ∀ k, n ≤ a.length → n < k → val (a.drop n) = val (b.drop n) →
    big_Cmp.l0 k a b ((n : Int) - 1) = some (cmp (val a) (val b)) := by
  induction n with
  | zero =>
    intro k _ hk hz
    obtain ⟨k, rfl⟩ : ∃ m, k = m + 1 := ⟨k - 1, by omega⟩
    simp only [big_Cmp.l0]
    rw [if_neg (by omega)]
    rw [List.drop_zero, List.drop_zero] at hz
    unfold cmp
    rw [hz, if_neg (by omega), if_neg (by omega)]
  | succ n ih =>
    intro k hn hk hz
    obtain ⟨k, rfl⟩ : ∃ m, k = m + 1 := ⟨k - 1, by omega⟩
    simp only [big_Cmp.l0]
    rw [show ((n + 1 : Nat) : Int) - 1 = (n : Int) by omega, if_pos (by omega), if_pos (by omega), if_pos (by omega), if_pos (by omega), w64 (x := (n : Int) - 1) (by omega) (by omega)]
    by_cases h1 : rd a (n : Int) < rd b (n : Int)
    · have := val_lt_at ha hb n hl (by omega) hz h1
      rw [if_pos h1, cmp, if_pos this]
    · rw [if_neg h1]
      by_cases h2 : rd a (n : Int) > rd b (n : Int)
      · have := val_lt_at hb ha n hl.symm (by omega) hz.symm h2
        rw [if_pos h2, cmp, if_neg (by omega), if_pos this]
      · rw [if_neg h2]
        exact ih k (by omega) (by omega) (drop_succ_val n (by omega) (by omega) hz (by omega))
theorem cmp_ok (x y : List Int) (hx : U x) (hy : U y) (lx : x.length ≤ 100000) (ly : y.length ≤ 100000) (k : Nat) (h1 : x.length < k) (h2 : y.length < k) :
    big_Cmp.f k x y = some (cmp (val x) (val y)) := by
  unfold big_Cmp.f
  rw [cut_ok x hx lx k h1, Option.bind_some, cut_ok y hy ly k h2, Option.bind_some]
  have e1 := limbs_len_val hx
  have e2 := limbs_len_val hy
  by_cases c1 : (limbs (val x)).length < (limbs (val y)).length
  · rw [if_pos (by omega), cmp, if_pos (limbs_len_lt c1)]
  · rw [if_neg (by omega)]
    by_cases c2 : (limbs (val y)).length < (limbs (val x)).length
    · have := limbs_len_lt c2
      rw [if_pos (by omega), cmp, if_neg (by omega), if_pos this]
    · rw [if_neg (by omega), w64 (by omega) (by omega)]
      have := cmp_loop (limbs (val x)) (limbs (val y)) (U_limbs _) (U_limbs _) (by omega) (by omega) (limbs (val x)).length k (Nat.le_refl _) (by omega) (by rw [List.drop_length, List.drop_eq_nil_of_le (by omega)])
      rw [val_limbs, val_limbs] at this
      exact this

/-- the carry that a row of entries ends with lies behind it -/
theorem val_close (out : List Int) (c : Nat) (hc : c < 4294967296) : val (out ++ [(c : Int) % 4294967296]) = val out + 4294967296 ^ out.length * c := by
  rw [val_append, val_one, show ((c : Int) % 4294967296) = (c : Int) by omega, Int.toNat_natCast]
theorem U.snoc {l : List Int} (h : U l) {x : Int} (hx : 0 ≤ x ∧ x < 4294967296) : U (l ++ [x]) := h.app (U.cons hx U.nil)
theorem take_all {l : List Int} (i : Nat) (h : l.length ≤ i) : l.take i = l := List.take_of_length_le h
theorem add_loop (x y : List Int) (hx : U x) (hy : U y) (hl : x.length ≤ 1000) (hyx : y.length ≤ x.length) (d : Nat) : ∀ (i c : Nat) (out : List Int) (k : Nat), i + d = x.length → d + 1010 < k → out.length = i → U out → c ≤ 1 →
    val out + 4294967296 ^ i * c = val (x.take i) + val (y.take i) →
    big_AddA.l0 k y out (c : Int) x (x.length : Int) (i : Int) = some (limbs (val x + val y)) := by
  induction d with
  | zero =>
    intro i c out k hi hk ho hu hc hv
    obtain ⟨k, rfl⟩ : ∃ m, k = m + 1 := ⟨k - 1, by omega⟩
    simp only [big_AddA.l0]
    rw [if_neg (by omega), if_pos (by omega), cut_ok _ (hu.snoc (by omega)) (by rw [List.length_append, List.length_singleton]; omega) k (by rw [List.length_append, List.length_singleton]; omega), Option.bind_some, val_close _ _ (by omega), ho, hv, take_all i (by omega), take_all i (by omega)]
  | succ d ih =>
    intro i c out k hi hk ho hu hc hv
    obtain ⟨k, rfl⟩ : ∃ m, k = m + 1 := ⟨k - 1, by omega⟩
    have rx := hx.rd i
    have ry := hy.rd i
    simp only [big_AddA.l0]
    rw [if_pos (by omega), if_pos (by omega), if_pos (by omega), w64 (x := (i : Int) + 1) (by omega) (by omega), show (i : Int) + 1 = ((i + 1 : Nat) : Int) by omega]
    have hxt := val_take_succ (l := x) i (by omega)
    by_cases hiy : i < y.length
    · rw [if_pos (by omega), if_pos (by omega)]
      have hyt := val_take_succ (l := y) i hiy
      have e : IntKind.u64.wrap ((IntKind.u64.wrap ((c : Int) + (IntKind.u64.wrap (rd x (i : Int))))) + (IntKind.u64.wrap (rd y (i : Int)))) = ((c + (rd x (i : Int)).toNat + (rd y (i : Int)).toNat : Nat) : Int) := by
        rw [wraps_u64 (rd x (i : Int)) (by omega) (by omega), wraps_u64 (rd y (i : Int)) (by omega) (by omega), wraps_u64 ((c : Int) + rd x (i : Int)) (by omega) (by omega), wraps_u64 _ (by omega) (by omega)]
        omega
      rw [e]
      have st := sum_step out c (val (x.take i)) (val (y.take i)) (rd x (i : Int)).toNat (rd y (i : Int)).toNat _ (by rw [ho]; exact hv) rfl
      generalize hs : c + (rd x (i : Int)).toNat + (rd y (i : Int)).toNat = s at *
      rw [show ((s : Nat) : Int) % 4294967296 = ((s % 4294967296 : Nat) : Int) by omega, show ((s : Nat) : Int) / 4294967296 = ((s / 4294967296 : Nat) : Int) by omega]
      refine ih (i + 1) _ _ k (by omega) (by omega) (by rw [List.length_append, List.length_singleton]; omega) (hu.snoc (by omega)) (by omega) ?_
      rw [hxt, hyt]
      rw [List.length_append, List.length_singleton, ho] at st
      exact st
    · rw [if_neg (by omega), if_pos (by omega)]
      have e : IntKind.u64.wrap ((c : Int) + (IntKind.u64.wrap (rd x (i : Int)))) = ((c + (rd x (i : Int)).toNat + 0 : Nat) : Int) := by
        rw [wraps_u64 (rd x (i : Int)) (by omega) (by omega), wraps_u64 _ (by omega) (by omega)]
        omega
      rw [e]
      have st := sum_step out c (val (x.take i)) (val (y.take i)) (rd x (i : Int)).toNat 0 _ (by rw [ho]; exact hv) rfl
      generalize hs : c + (rd x (i : Int)).toNat + 0 = s at *
      rw [show ((s : Nat) : Int) % 4294967296 = ((s % 4294967296 : Nat) : Int) by omega, show ((s : Nat) : Int) / 4294967296 = ((s / 4294967296 : Nat) : Int) by omega]
      refine ih (i + 1) _ _ k (by omega) (by omega) (by rw [List.length_append, List.length_singleton]; omega) (hu.snoc (by omega)) (by omega) ?_
      rw [hxt, take_all (l := y) (i + 1) (by omega)]
      rw [List.length_append, List.length_singleton, ho, take_all (l := y) i (by omega), Nat.mul_zero, Nat.add_zero] at st
      exact st
theorem addB_eq (k : Nat) : ∀ (a b : List Int) (c : Int) (x : List Int) (n i : Int), big_AddB.l0 k a b c x n i = big_AddA.l0 k a b c x n i := by
  induction k with
  | zero => intros; rfl
  | succ k ih => intros; simp only [big_AddA.l0, big_AddB.l0, ih]
theorem add_ok (x y : List Int) (hx : U x) (hy : U y) (lx : x.length ≤ 1000) (ly : y.length ≤ 1000) (k : Nat) (hk : 2020 < k) :
    big_Add.f k x y = some (limbs (val x + val y)) := by
  unfold big_Add.f
  by_cases c : x.length < y.length
  · rw [if_pos (by omega), big_AddB.f, w64 (by omega) (by omega), if_pos (by omega), if_pos (by omega), addB_eq, List.replicate_zero, Nat.add_comm]
    exact add_loop y x hy hx (by omega) (by omega) y.length 0 0 [] k (by omega) (by omega) rfl U.nil (by omega) (by simp [val])
  · rw [if_neg (by omega), big_AddA.f, w64 (by omega) (by omega), if_pos (by omega), if_pos (by omega), List.replicate_zero]
    exact add_loop x y hx hy (by omega) (by omega) x.length 0 0 [] k (by omega) (by omega) rfl U.nil (by omega) (by simp [val])

theorem sub_step (V X Y P h a b t B : Nat) (v n : Nat) (hv : V + Y = X + P * b) (ht : t = b + a) (hn : n + t = h + 4294967296 * B) (hs : v + P * h = V + P * n) :
    v + (Y + P * a) = X + P * 4294967296 * B := by
  subst ht
  have e : P * n + P * (b + a) = P * h + P * 4294967296 * B := by rw [← Nat.mul_add, hn, Nat.mul_add, Nat.mul_assoc]
  rw [Nat.mul_add] at e
  omega
theorem sub_loop (x y : List Int) (hy : U y) (hl : x.length ≤ 1000) (hyx : y.length ≤ x.length) (hle : val y ≤ val x) (d : Nat) : ∀ (i b : Nat) (cur : List Int) (k : Nat), i + d = x.length → d + 1010 < k → cur.length = x.length → U cur → b ≤ 1 →
    val cur + val (y.take i) = val x + 4294967296 ^ i * b →
    big_Sub.l0 k cur y (b : Int) (x.length : Int) (i : Int) = some (limbs (val x - val y), true) := by
  induction d with
  | zero =>
    intro i b cur k hi hk hc hu hb hv
    obtain ⟨k, rfl⟩ : ∃ m, k = m + 1 := ⟨k - 1, by omega⟩
    simp only [big_Sub.l0]
    rw [if_neg (by omega), cut_ok _ hu (by omega) k (by omega), Option.bind_some]
    rw [take_all i (by omega), show i = cur.length by omega] at hv
    have := val_lt hu
    obtain rfl | rfl : b = 0 ∨ b = 1 := by omega
    · rw [show val cur = val x - val y by omega]
    · omega
  | succ d ih =>
    intro i b cur k hi hk hc hu hb hv
    obtain ⟨k, rfl⟩ : ∃ m, k = m + 1 := ⟨k - 1, by omega⟩
    have rx := hu.rd i
    have ry := hy.rd i
    have hset := fun v => val_set (l := cur) i (by omega) v
    simp only [big_Sub.l0]
    rw [if_pos (by omega), w64 (x := (i : Int) + 1) (by omega) (by omega), show (i : Int) + 1 = ((i + 1 : Nat) : Int) by omega, Int.toNat_natCast, wraps_u64 (rd cur (i : Int)) (by omega) (by omega), wraps_u64 (rd y (i : Int)) (by omega) (by omega), wraps_u64 (rd cur (i : Int) + 4294967296) (by omega) (by omega), wraps_u64 ((b : Int) + rd y (i : Int)) (by omega) (by omega)]
    by_cases hiy : i < y.length
    · have hyt := val_take_succ (l := y) i hiy
      rw [if_pos (by omega), if_pos (show (0 : Int) ≤ (i : Int) by omega), if_pos (show (i : Int) < (cur.length : Int) by omega)]
      by_cases ht : rd cur (i : Int) < (b : Int) + rd y (i : Int)
      · rw [if_pos ht, wraps_u64 _ (by omega) (by omega)]
        refine ih (i + 1) 1 _ k (by omega) (by omega) (by rw [List.length_set]; omega) (hu.set _ (by omega)) (by omega) ?_
        rw [hyt, Nat.pow_succ]
        exact sub_step _ _ _ _ _ _ _ _ 1 _ _ hv rfl (by omega) (hset _)
      · rw [if_neg ht, wraps_u64 _ (by omega) (by omega)]
        refine ih (i + 1) 0 _ k (by omega) (by omega) (by rw [List.length_set]; omega) (hu.set _ (by omega)) (by omega) ?_
        rw [hyt, Nat.pow_succ]
        exact sub_step _ _ _ _ _ _ _ _ 0 _ _ hv rfl (by omega) (hset _)
    · rw [if_neg (by omega), if_pos (show (0 : Int) ≤ (i : Int) by omega), if_pos (show (i : Int) < (cur.length : Int) by omega)]
      rw [take_all (l := y) i (by omega)] at hv
      by_cases ht : rd cur (i : Int) < (b : Int)
      · rw [if_pos ht, wraps_u64 _ (by omega) (by omega)]
        refine ih (i + 1) 1 _ k (by omega) (by omega) (by rw [List.length_set]; omega) (hu.set _ (by omega)) (by omega) ?_
        rw [take_all (l := y) (i + 1) (by omega), Nat.pow_succ]
        have st := sub_step _ _ _ _ _ 0 _ _ 1 _ _ hv rfl (by omega) (hset ((rd cur (i : Int) + 4294967296 - (b : Int)) % 4294967296))
        rw [Nat.mul_zero, Nat.add_zero] at st
        exact st
      · rw [if_neg ht, wraps_u64 _ (by omega) (by omega)]
        refine ih (i + 1) 0 _ k (by omega) (by omega) (by rw [List.length_set]; omega) (hu.set _ (by omega)) (by omega) ?_
        rw [take_all (l := y) (i + 1) (by omega), Nat.pow_succ]
        have st := sub_step _ _ _ _ _ 0 _ _ 0 _ _ hv rfl (by omega) (hset ((rd cur (i : Int) - (b : Int)) % 4294967296))
        rw [Nat.mul_zero, Nat.add_zero] at st
        exact st
theorem limbs_len_mono {m n : Nat} (h : m ≤ n) : (limbs m).length ≤ (limbs n).length := by
  by_cases c : (limbs n).length < (limbs m).length
  · have := limbs_len_lt c; omega
  · omega
theorem sub_ok (x y : List Int) (hx : U x) (hy : U y) (lx : x.length ≤ 1000) (ly : y.length ≤ 1000) (k : Nat) (hk : 2020 < k) :
    big_Sub.f k x y = some (if val x < val y then ([], false) else (limbs (val x - val y), true)) := by
  unfold big_Sub.f
  have e1 := limbs_len_val hx
  have e2 := limbs_len_val hy
  rw [cut_ok x hx (by omega) k (by omega), Option.bind_some, cut_ok y hy (by omega) k (by omega), Option.bind_some, cmp_ok _ _ (U_limbs _) (U_limbs _) (by omega) (by omega) k (by omega) (by omega), Option.bind_some, val_limbs, val_limbs]
  by_cases c : val x < val y
  · rw [if_pos c, cmp, if_pos c, if_pos (by decide)]
  · rw [if_neg c, if_neg (by unfold cmp; rw [if_neg c]; by_cases c2 : val y < val x <;> simp [c2])]
    have := sub_loop (limbs (val x)) (limbs (val y)) (U_limbs _) (by omega) (limbs_len_mono (by omega)) (by rw [val_limbs, val_limbs]; omega) (limbs (val x)).length 0 0 (limbs (val x)) k (by omega) (by omega) rfl (U_limbs _) (by omega) (by simp [val])
    rw [val_limbs, val_limbs] at this
    exact this

theorem of_ok (v : Int) (h0 : 0 ≤ v) (h1 : v ≤ 18446744073709551615) (k : Nat) (hk : 2 < k) : big_Of.f k v = some (limbs v.toNat) := by
  unfold big_Of.f
  rw [cut_ok _ (U.cons (by omega) (U.cons (by omega) U.nil)) (by simp) k (by simpa using hk), Option.bind_some]
  simp only [val]
  congr 2
  omega
end Go.Proofs.Ytgejdfhfgphcbaa.Big
