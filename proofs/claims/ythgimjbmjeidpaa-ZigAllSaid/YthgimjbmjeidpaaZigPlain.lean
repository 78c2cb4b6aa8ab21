/- The plain side of layer 2 (zig): signs, bytes of seven bits, and what the printed functions answer. No program in sight but the printed functions. -/
import Derived.Test.YthgimjbmjeidpaaPZigx
import Derived.Test.YthgimjbmjeidpaaAid
namespace Go.Proofs.Ythgimjbmjeidpaa.Zig
open Go.RowKit Go.Proofs.Ythgimjbmjeidpaa.PZig Go.Proofs.YthgimjbmjeidpaaW.PrintWords Go.Proofs.YthgimjbmjeidpaaW.PrintLast Go.Proofs.YthgimjbmjeidpaaW.PrintMore Go.Proofs.Ythgimjbmjeidpaa.Aid

def zig (a : Int) : Int := if a < 0 then -2 * a - 1 else 2 * a
def zag (v : Int) : Int := if v % 2 = 1 then -1 - v / 2 else v / 2

theorem zig32 {a : Int} (h0 : -2147483648 ≤ a) (h1 : a ≤ 2147483647) : zig_Zig32.f a = some (zig a) := by
  unfold zig_Zig32.f zig
  congr 1
  by_cases hn : a < 0
  · rw [if_pos hn, xor_ones .u32 _ _ (by rw [show (a / 2147483648) % 4294967296 = 4294967295 by omega]; rfl), IntKind.wrap_u32]
    simp only [IntKind.bits]
    omega
  · rw [if_neg hn, show (a / 2147483648) % 4294967296 = 0 by omega, xor_zero, IntKind.wrap_u32]
    simp only [IntKind.bits]
    omega
theorem zig64 {a : Int} (h0 : -9223372036854775808 ≤ a) (h1 : a ≤ 9223372036854775807) : zig_Zig64.f a = some (zig a) := by
  unfold zig_Zig64.f zig
  congr 1
  by_cases hn : a < 0
  · rw [if_pos hn, xor_ones .u64 _ _ (by rw [IntKind.wrap_u64, show (a / 9223372036854775808) % 18446744073709551616 = 18446744073709551615 by omega]; rfl)]
    simp only [IntKind.wrap_u64, IntKind.bits]
    omega
  · rw [if_neg hn, show IntKind.u64.wrap (a / 9223372036854775808) = 0 by rw [IntKind.wrap_u64]; omega, xor_zero]
    simp only [IntKind.wrap_u64, IntKind.bits]
    omega
theorem zag32 {v : Int} (h0 : 0 ≤ v) (h1 : v ≤ 4294967295) : zig_Zag32.f v = some (zag v) := by
  unfold zig_Zag32.f zag
  congr 1
  rw [u32_and1 h0 h1]
  by_cases hn : v % 2 = 1
  · rw [if_pos hn, hn, show wrap32 (-wrap32 1) = -1 by unfold wrap32; omega, xor_ones .i32 _ _ (by decide)]
    simp only [IntKind.wrap_i32, IntKind.bits, wrap32]
    omega
  · rw [if_neg hn, show v % 2 = 0 by omega, show wrap32 (-wrap32 0) = 0 by unfold wrap32; omega, xor_zero]
    simp only [IntKind.wrap_i32, IntKind.bits, wrap32]
    omega
theorem zag64 {v : Int} (h0 : 0 ≤ v) (h1 : v ≤ 18446744073709551615) : zig_Zag64.f v = some (zag v) := by
  unfold zig_Zag64.f zag
  congr 1
  rw [u64_and1 h0 h1]
  by_cases hn : v % 2 = 1
  · rw [if_pos hn, hn, show wrap64 (-wrap64 1) = -1 by unfold wrap64; omega, xor_ones .i64 _ _ (by decide)]
    simp only [IntKind.wrap_i64, IntKind.bits, wrap64]
    omega
  · rw [if_neg hn, show v % 2 = 0 by omega, show wrap64 (-wrap64 0) = 0 by unfold wrap64; omega, xor_zero]
    simp only [IntKind.wrap_i64, IntKind.bits, wrap64]
    omega
/-- a number as bytes of seven bits -/
def venc (n : Nat) : List Int := if _h : n > 127 then ((n % 128 + 128 : Nat) : Int) :: venc (n / 128) else [(n : Int)]
termination_by n
decreasing_by omega
theorem venc_big {n : Nat} (h : n > 127) : venc n = ((n % 128 + 128 : Nat) : Int) :: venc (n / 128) := by rw [venc, dif_pos h]
theorem venc_small {n : Nat} (h : ¬ n > 127) : venc n = [(n : Int)] := by rw [venc, dif_neg h]
theorem venc_pos (n : Nat) : 0 < (venc n).length := by
  by_cases h : n > 127
  · rw [venc_big h]; simp
  · rw [venc_small h]; simp
theorem venc_len (m : Nat) : ∀ n : Nat, n < 128 ^ (m + 1) → (venc n).length ≤ m + 1 := by
  induction m with
  | zero => intro n h; rw [venc_small (by omega)]; simp
  | succ m ih =>
    intro n h
    by_cases hb : n > 127
    · rw [venc_big hb, List.length_cons]
      have := ih (n / 128) (by rw [Nat.div_lt_iff_lt_mul (by omega)]; rw [Nat.pow_succ] at h; exact h)
      omega
    · rw [venc_small hb]; simp
theorem venc_len10 (n : Nat) (h : n < 2 ^ 64) : (venc n).length ≤ 10 := venc_len 9 n (Nat.lt_of_lt_of_le h (by decide))

theorem put_l0 (n : Nat) : ∀ (k : Nat) (out : List Int), (venc n).length < k → out.length + (venc n).length < 1000000 → zig_Put.l0 k (n : Int) out = some (out ++ venc n) := by
  induction n using Nat.strongRecOn with
  | _ n ih =>
    intro k out hk ho
    obtain ⟨k, rfl⟩ : ∃ m, k = m + 1 := ⟨k - 1, by omega⟩
    simp only [zig_Put.l0]
    by_cases hb : n > 127
    · rw [venc_big hb, List.length_cons] at hk ho
      rw [if_pos (by omega), if_pos (by omega), or_128 (by omega) (by omega), venc_big hb]
      have e := ih (n / 128) (by omega) k (out ++ [((n % 128 + 128 : Nat) : Int)]) (by omega) (by rw [List.length_append, List.length_singleton]; omega)
      rw [show (n : Int) / 128 = ((n / 128 : Nat) : Int) by omega, show (n : Int) % 256 % 128 + 128 = ((n % 128 + 128 : Nat) : Int) by omega, e, List.append_assoc]
      rfl
    · rw [venc_small hb] at ho ⊢
      rw [List.length_singleton] at ho
      rw [if_neg (by omega), if_pos (by omega), show (n : Int) % 256 = (n : Int) by omega]

theorem put_f (n k : Nat) (h : n < 2 ^ 64) (hk : 10 < k) : zig_Put.f k [] (n : Int) = some (venc n) := by
  have := venc_len10 n h
  rw [zig_Put.f, slices_Clone_byte_byte.f, if_pos (by decide), Option.bind_some, put_l0 n k [] (by omega) (by simp; omega), List.nil_append]

theorem rd_drop {L : List Int} {p : Nat} {x : Int} {t : List Int} (h : L.drop p = x :: t) : rd L (p : Int) = x ∧ p < L.length ∧ L.drop (p + 1) = t := by
  have hl : p < L.length := by
    rcases Nat.lt_or_ge p L.length with h1 | h1
    · exact h1
    · rw [List.drop_eq_nil_of_le h1] at h; cases h
  rw [List.drop_eq_getElem_cons hl] at h
  injection h with h1 h2
  refine ⟨?_, hl, h2⟩
  rw [rd, Int.toNat_natCast, List.getD_eq_getElem?_getD, List.getElem?_eq_getElem hl]
  exact h1

theorem w64 {x : Int} (h0 : -9223372036854775808 ≤ x) (h1 : x ≤ 9223372036854775807) : wrap64 x = x := by unfold wrap64; omega

/-- one round of Take, at a byte: what the error test says -/
theorem take_round (k : Nat) (L : List Int) (bits v pos at_ : Nat) (x : Nat) (t : List Int) (hd : L.drop pos = (x : Int) :: t) (hx : x < 256) (hb : at_ < bits) (hb2 : bits ≤ 64) (hl : L.length < 1000000) :
    zig_Take.l0 (k + 1) L (bits : Int) (v : Int) (pos : Int) (at_ : Int) = zig_Take.j2 k L (bits : Int) (v : Int) ((pos + 1 : Nat) : Int) (at_ : Int) (x : Int) (decide (bits ≤ at_ + 7 ∧ (128 ≤ x ∨ 2 ^ (bits - at_) ≤ x % 128))) := by
  obtain ⟨h1, h2, h3⟩ := rd_drop hd
  simp only [zig_Take.l0]
  rw [if_neg (by omega), if_pos (by omega), if_pos (by omega), h1, w64 (by omega) (by omega), w64 (by omega) (by omega), and_128 (by omega) (by omega), and_127 (by omega) (by omega)]
  rw [show ((pos : Int) + 1) = ((pos + 1 : Nat) : Int) by omega]
  by_cases h7 : bits ≤ at_ + 7
  · rw [if_pos (by omega)]
    by_cases h8 : x < 128
    · rw [if_pos (by rw [if_pos (by omega)]), if_pos (by omega), IntKind.wrap_u64, show ((x : Int) % 128 % 18446744073709551616) = ((x % 128 : Nat) : Int) by omega]
      have hs : shr .u64 ((x % 128 : Nat) : Int) ((bits : Int) - (at_ : Int)) = ((x % 128 / 2 ^ (bits - at_) : Nat) : Int) := by
        unfold shr
        rw [show ((bits : Int) - (at_ : Int)).toNat = bits - at_ by omega, Nat.min_eq_left (by simp only [IntKind.bits]; omega)]
        push_cast
        rfl
      rw [hs]
      congr 1
      rw [Bool.eq_iff_iff, bne_iff_ne, decide_eq_true_eq]
      have hp : 0 < 2 ^ (bits - at_) := Nat.two_pow_pos _
      constructor
      · intro hne
        refine ⟨h7, .inr ?_⟩
        rcases Nat.lt_or_ge (x % 128) (2 ^ (bits - at_)) with hlt | hge
        · exact absurd (by rw [Nat.div_eq_of_lt hlt]; rfl) hne
        · exact hge
      · rintro ⟨_, h9 | h9⟩
        · omega
        · intro he
          have := Nat.div_pos h9 hp
          omega
    · rw [if_neg (by rw [if_neg (by omega)]; decide)]
      congr 1
      rw [eq_comm, decide_eq_true_eq]
      exact ⟨h7, .inl (by omega)⟩
  · rw [if_neg (by omega)]
    congr 1
    rw [eq_comm, decide_eq_false_iff_not]
    exact fun h => h7 h.1

/-- what is taken in goes behind what is there -/
theorem take_in (v at_ x : Nat) (hv : v < 2 ^ at_) (h : x % 128 * 2 ^ at_ < 2 ^ 64) (ha : at_ < 64) (hx : x < 256) :
    bits .or .u64 (v : Int) (shl .u64 (IntKind.u64.wrap (bits .and .u8 (x : Int) 127)) (at_ : Int)) = ((v + x % 128 * 2 ^ at_ : Nat) : Int) := by
  rw [and_127 (by omega) (by omega), IntKind.wrap_u64, show ((x : Int) % 128 % 18446744073709551616) = ((x % 128 : Nat) : Int) by omega]
  have hs : shl .u64 ((x % 128 : Nat) : Int) (at_ : Int) = ((x % 128 * 2 ^ at_ : Nat) : Int) := by
    unfold shl
    rw [Int.toNat_natCast, Nat.min_eq_left (by simp only [IntKind.bits]; omega), show ((x % 128 : Nat) : Int) * 2 ^ at_ = ((x % 128 * 2 ^ at_ : Nat) : Int) by push_cast; rfl]
    exact wraps_u64 _ (by omega) (by exact_mod_cast h)
  rw [hs, u64_join at_ (by omega) (by exact_mod_cast hv) (by omega) (by rw [show ((2 : Int) ^ at_) = ((2 ^ at_ : Nat) : Int) by push_cast; rfl, ← Int.natCast_emod, Nat.mul_mod_left]; rfl) ?_ (by exact_mod_cast h)]
  · push_cast; rfl
  · have : 2 ^ at_ < 2 ^ 64 := Nat.pow_lt_pow_right (by omega) ha
    have h2 : v < 2 ^ 64 := by omega
    exact_mod_cast h2

theorem take_venc (n : Nat) : ∀ (k bits v pos at_ : Nat) (L more : List Int), L.drop pos = venc n ++ more → at_ < bits → bits ≤ 64 → v < 2 ^ at_ → v + n * 2 ^ at_ < 2 ^ 64 → L.length < 1000000 → 2 * (venc n).length < k →
    zig_Take.l0 k L (bits : Int) (v : Int) (pos : Int) (at_ : Int) = some (if n < 2 ^ (bits - at_) then (((v + n * 2 ^ at_ : Nat) : Int), ((pos + (venc n).length : Nat) : Int), 0) else (0, 0, 4)) := by
  induction n using Nat.strongRecOn with
  | _ n ih =>
    intro k bits v pos at_ L more hd hb hb2 hv hV hl hk
    have hvl := venc_pos n
    obtain ⟨k, rfl⟩ : ∃ m, k = m + 2 := ⟨k - 2, by omega⟩
    have hp : 0 < 2 ^ at_ := Nat.two_pow_pos _
    by_cases hn : n > 127
    · rw [venc_big hn] at hd hk ⊢
      rw [List.length_cons] at hk
      rw [List.cons_append] at hd
      rw [take_round (k + 1) L bits v pos at_ _ _ hd (by omega) hb hb2 hl]
      obtain ⟨_, _, hd2⟩ := rd_drop hd
      simp only [zig_Take.j2]
      by_cases h7 : bits ≤ at_ + 7
      · rw [if_pos (by rw [decide_eq_true_eq]; exact ⟨h7, .inl (by omega)⟩), if_neg]
        have : 2 ^ (bits - at_) ≤ 2 ^ 7 := Nat.pow_le_pow_right (by omega) (by omega)
        omega
      · rw [if_neg (by rw [decide_eq_true_eq]; exact fun h => h7 h.1), if_pos (by omega)]
        rw [and_128 (by omega) (by omega), if_neg (by rw [if_neg (by omega)]; decide)]
        have hm : n % 128 * 2 ^ at_ ≤ n * 2 ^ at_ := Nat.mul_le_mul_right _ (Nat.mod_le _ _)
        rw [take_in v at_ (n % 128 + 128) hv (by rw [show (n % 128 + 128) % 128 = n % 128 by omega]; omega) (by omega) (by omega), show (n % 128 + 128) % 128 = n % 128 by omega]
        rw [w64 (by omega) (by omega), show ((at_ : Int) + 7) = ((at_ + 7 : Nat) : Int) by omega]
        have e7 : 2 ^ (at_ + 7) = 2 ^ at_ * 128 := by rw [Nat.pow_add]
        have hsplit : n * 2 ^ at_ = n % 128 * 2 ^ at_ + n / 128 * 2 ^ (at_ + 7) := by
          rw [e7]
          have h := Nat.div_add_mod n 128
          calc n * 2 ^ at_ = (128 * (n / 128) + n % 128) * 2 ^ at_ := by rw [h]
            _ = _ := by rw [Nat.add_mul, Nat.add_comm, Nat.mul_comm 128, Nat.mul_assoc, Nat.mul_comm 128]
        have hv2 : v + n % 128 * 2 ^ at_ < 2 ^ (at_ + 7) := by
          rw [e7]
          have h := Nat.mul_le_mul_right (2 ^ at_) (show n % 128 ≤ 127 by omega)
          rw [Nat.mul_comm (2 ^ at_) 128]
          omega
        rw [ih (n / 128) (by omega) k bits (v + n % 128 * 2 ^ at_) (pos + 1) (at_ + 7) L more hd2 (by omega) hb2 hv2 (by omega) hl (by omega)]
        have hq : n / 128 < 2 ^ (bits - (at_ + 7)) ↔ n < 2 ^ (bits - at_) := by
          rw [Nat.div_lt_iff_lt_mul (by omega), show bits - at_ = bits - (at_ + 7) + 7 by omega, Nat.pow_add]
        by_cases hc : n < 2 ^ (bits - at_)
        · rw [if_pos hc, if_pos (hq.mpr hc), List.length_cons]
          rw [show v + n % 128 * 2 ^ at_ + n / 128 * 2 ^ (at_ + 7) = v + n * 2 ^ at_ by omega, show pos + 1 + (venc (n / 128)).length = pos + ((venc (n / 128)).length + 1) by omega]
        · rw [if_neg hc, if_neg (fun h => hc (hq.mp h))]
    · rw [venc_small hn] at hd hk ⊢
      rw [List.singleton_append] at hd
      rw [take_round (k + 1) L bits v pos at_ _ _ hd (by omega) hb hb2 hl]
      simp only [zig_Take.j2]
      rw [show n % 128 = n by omega]
      by_cases hc : n < 2 ^ (bits - at_)
      · rw [if_neg (by rw [decide_eq_true_eq]; omega), if_pos (by omega), and_128 (by omega) (by omega), if_pos (by rw [if_pos (by omega)]), if_pos hc]
        rw [take_in v at_ n hv (by rw [show n % 128 = n by omega]; omega) (by omega) (by omega), show n % 128 = n by omega]
        rfl
      · have h7 : bits ≤ at_ + 7 := by
          rcases Nat.lt_or_ge (at_ + 7) bits with h | h
          · have : 2 ^ 7 ≤ 2 ^ (bits - at_) := Nat.pow_le_pow_right (by omega) (by omega)
            omega
          · exact h
        rw [if_pos (by rw [decide_eq_true_eq]; omega), if_neg hc]

theorem take_cut (n : Nat) : ∀ (k c v pos at_ : Nat) (L : List Int), L.drop pos = (venc n).take c → c < (venc n).length → at_ < 64 → v < 2 ^ at_ → v + n * 2 ^ at_ < 2 ^ 64 → L.length < 1000000 → pos ≤ L.length → 2 * (venc n).length < k →
    zig_Take.l0 k L (64 : Int) (v : Int) (pos : Int) (at_ : Int) = some (0, 0, 3) := by
  induction n using Nat.strongRecOn with
  | _ n ih =>
    intro k c v pos at_ L hd hc hb hv hV hl hpl hk
    have hvl := venc_pos n
    obtain ⟨k, rfl⟩ : ∃ m, k = m + 2 := ⟨k - 2, by omega⟩
    rcases Nat.eq_zero_or_pos c with rfl | hcp
    · rw [List.take_zero] at hd
      have : L.length ≤ pos := List.drop_eq_nil_iff.mp hd
      simp only [zig_Take.l0]
      rw [if_pos (by omega)]
    · have hn : n > 127 := by
        rcases Nat.lt_or_ge 127 n with h | h
        · exact h
        · rw [venc_small (by omega)] at hc; simp at hc; omega
      obtain ⟨c, rfl⟩ : ∃ m, c = m + 1 := ⟨c - 1, by omega⟩
      rw [venc_big hn, List.take_succ_cons] at hd
      rw [venc_big hn, List.length_cons] at hk hc
      have h57 : at_ + 7 < 64 := by
        rcases Nat.lt_or_ge (at_ + 7) 64 with h | h
        · exact h
        · have h1 : 2 ^ 57 ≤ 2 ^ at_ := Nat.pow_le_pow_right (by omega) (by omega)
          have h2 := Nat.mul_le_mul (show 128 ≤ n by omega) h1
          omega
      rw [show (64 : Int) = ((64 : Nat) : Int) from rfl, take_round (k + 1) L 64 v pos at_ _ _ hd (by omega) hb (by omega) hl]
      obtain ⟨_, hlt, hd2⟩ := rd_drop hd
      simp only [zig_Take.j2]
      rw [if_neg (by rw [decide_eq_true_eq]; omega), if_pos (by omega), and_128 (by omega) (by omega), if_neg (by rw [if_neg (by omega)]; decide)]
      have hm : n % 128 * 2 ^ at_ ≤ n * 2 ^ at_ := Nat.mul_le_mul_right _ (Nat.mod_le _ _)
      rw [take_in v at_ (n % 128 + 128) hv (by rw [show (n % 128 + 128) % 128 = n % 128 by omega]; omega) (by omega) (by omega), show (n % 128 + 128) % 128 = n % 128 by omega]
      rw [w64 (by omega) (by omega), show ((at_ : Int) + 7) = ((at_ + 7 : Nat) : Int) by omega]
      have e7 : 2 ^ (at_ + 7) = 2 ^ at_ * 128 := by rw [Nat.pow_add]
      have hsplit : n * 2 ^ at_ = n % 128 * 2 ^ at_ + n / 128 * 2 ^ (at_ + 7) := by
        rw [e7]
        have h := Nat.div_add_mod n 128
        calc n * 2 ^ at_ = (128 * (n / 128) + n % 128) * 2 ^ at_ := by rw [h]
          _ = _ := by rw [Nat.add_mul, Nat.add_comm, Nat.mul_comm 128, Nat.mul_assoc, Nat.mul_comm 128]
      have hv2 : v + n % 128 * 2 ^ at_ < 2 ^ (at_ + 7) := by
        rw [e7]
        have h := Nat.mul_le_mul_right (2 ^ at_) (show n % 128 ≤ 127 by omega)
        rw [Nat.mul_comm (2 ^ at_) 128]
        omega
      exact ih (n / 128) (by omega) k c (v + n % 128 * 2 ^ at_) (pos + 1) (at_ + 7) L hd2 (by omega) (by omega) hv2 (by omega) hl (by omega) (by omega)

theorem take_f {k : Nat} {L : List Int} {b : Nat} (h0 : 1 ≤ b) (h1 : b ≤ 64) : zig_Take.f (k + 1) L (b : Int) = zig_Take.l0 k L (b : Int) 0 0 0 := by
  rw [zig_Take.f, if_neg (by omega), show decide ((b : Int) > 64) = false by rw [decide_eq_false_iff_not]; omega]
  simp only [zig_Take.j0]
  rw [if_neg (by decide)]

theorem place_f (a : Int) (n : Nat) (hn : 0 < n) (hn2 : n < 1000) : ∃ c : Nat, c < n ∧ assayerlaw0_Place.f a (n : Int) = some (c : Int) := by
  have h1 := Int.tmod_lt_of_pos a (show (0 : Int) < n by omega)
  have h2 : -(n : Int) < Int.tmod a n := by
    have := Int.lt_tmod_of_pos a (show (0 : Int) < n by omega)
    exact this
  have h3 : 0 ≤ Int.tmod (Int.tmod a n + n) n := Int.tmod_nonneg _ (by omega)
  have h4 := Int.tmod_lt_of_pos (Int.tmod a n + n) (show (0 : Int) < n by omega)
  refine ⟨(Int.tmod (Int.tmod a n + n) n).toNat, by omega, ?_⟩
  rw [assayerlaw0_Place.f, if_neg (by omega), if_neg (by omega), w64 (by omega) (by omega)]
  congr 1
  omega

theorem venc_ge (m : Nat) : ∀ n : Nat, 128 ^ m ≤ n → m + 1 ≤ (venc n).length := by
  induction m with
  | zero => intro n _; have := venc_pos n; omega
  | succ m ih =>
    intro n h
    have h128 : 128 ^ (m + 1) = 128 ^ m * 128 := Nat.pow_succ ..
    have hp : 0 < 128 ^ m := Nat.pow_pos (by omega)
    have hb : n > 127 := by omega
    rw [venc_big hb, List.length_cons]
    have := ih (n / 128) (by rw [Nat.le_div_iff_mul_le (by omega)]; omega)
    omega
theorem zigBegun : assayerlaw2_begun.f (99 + 1) = some true := by kernel_rfl

end Go.Proofs.Ythgimjbmjeidpaa.Zig
