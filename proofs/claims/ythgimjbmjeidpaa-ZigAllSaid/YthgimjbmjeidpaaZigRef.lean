/- The document's Zig32 to Zag64, PutVar, TakeVar are zig's: plain. -/
import Derived.Test.YthgimjbmjeidpaaZigPlain
namespace Go.Proofs.Ythgimjbmjeidpaa.Zig
open Go.RowKit Go.Proofs.Ythgimjbmjeidpaa.PZig Go.Proofs.YthgimjbmjeidpaaW.PrintWords Go.Proofs.YthgimjbmjeidpaaW.PrintLast Go.Proofs.YthgimjbmjeidpaaW.PrintMore Go.Proofs.Ythgimjbmjeidpaa.Aid

theorem rzig32 {a : Int} (h0 : -2147483648 ≤ a) (h1 : a ≤ 2147483647) : assayerref1_Zig32.f a = some (zig a) := by
  unfold assayerref1_Zig32.f zig
  by_cases c : a < 0
  · rw [if_pos c, if_pos c]; congr 1; unfold wrap32; omega
  · rw [if_neg c, if_neg c]; congr 1; omega
theorem rzig64 {a : Int} (h0 : -9223372036854775808 ≤ a) (h1 : a ≤ 9223372036854775807) : assayerref1_Zig64.f a = some (zig a) := by
  unfold assayerref1_Zig64.f zig
  by_cases c : a < 0
  · rw [if_pos c, if_pos c]; congr 1; unfold wrap64; simp only [IntKind.wrap_u64]; omega
  · rw [if_neg c, if_neg c]; congr 1; simp only [IntKind.wrap_u64]; omega
theorem rzag32 {v : Int} (h0 : 0 ≤ v) (h1 : v ≤ 4294967295) : assayerref1_Zag32.f v = some (zag v) := by
  unfold assayerref1_Zag32.f zag
  rw [Int.tmod_eq_emod_of_nonneg h0, Int.tdiv_eq_ediv_of_nonneg h0]
  by_cases c : v % 2 = 1
  · rw [if_pos c, if_pos c]; congr 1; unfold wrap32; omega
  · rw [if_neg c, if_neg c]; congr 1; unfold wrap32; omega
theorem rzag64 {v : Int} (h0 : 0 ≤ v) (h1 : v ≤ 18446744073709551615) : assayerref1_Zag64.f v = some (zag v) := by
  unfold assayerref1_Zag64.f zag
  rw [Int.tmod_eq_emod_of_nonneg h0, Int.tdiv_eq_ediv_of_nonneg h0]
  by_cases c : v % 2 = 1
  · rw [if_pos c, if_pos c]; congr 1; unfold wrap64; simp only [IntKind.wrap_u64]; omega
  · rw [if_neg c, if_neg c]; congr 1; unfold wrap64; simp only [IntKind.wrap_u64]; omega
theorem rput_l0 (n : Nat) : ∀ (k : Nat) (out : List Int), n < 2 ^ 64 → (venc n).length < k → out.length + (venc n).length < 1000000 → assayerref1_PutVar.l0 k (n : Int) out = some (out ++ venc n) := by
  induction n using Nat.strongRecOn with
  | _ n ih =>
    intro k out hn hk ho
    obtain ⟨k, rfl⟩ : ∃ m, k = m + 1 := ⟨k - 1, by omega⟩
    simp only [assayerref1_PutVar.l0]
    by_cases hb : n > 127
    · rw [venc_big hb, List.length_cons] at hk ho
      rw [if_pos (by omega), if_pos (by omega), Int.tmod_eq_emod_of_nonneg (by omega), Int.tdiv_eq_ediv_of_nonneg (by omega), venc_big hb]
      have e := ih (n / 128) (by omega) k (out ++ [((n % 128 + 128 : Nat) : Int)]) (by omega) (by omega) (by rw [List.length_append, List.length_singleton]; omega)
      rw [show (n : Int) / 128 = ((n / 128 : Nat) : Int) by omega, wraps_u64 _ (by omega) (by omega), show ((n : Int) % 128 + 128) % 256 = ((n % 128 + 128 : Nat) : Int) by omega, e, List.append_assoc]
      rfl
    · rw [venc_small hb] at ho ⊢
      rw [List.length_singleton] at ho
      rw [if_neg (by omega), if_pos (by omega), show (n : Int) % 256 = (n : Int) by omega]
theorem put_all (L : List Int) (hl : L.length < 1000) (n k : Nat) (h : n < 2 ^ 64) (hk : 10 < k) : zig_Put.f k L (n : Int) = some (L ++ venc n) := by
  have := venc_len10 n h
  rw [zig_Put.f, slices_Clone_byte_byte.f, if_pos (by omega), Option.bind_some, put_l0 n k L (by omega) (by omega)]
theorem rput_all (L : List Int) (hl : L.length < 1000) (n k : Nat) (h : n < 2 ^ 64) (hk : 10 < k) : assayerref1_PutVar.f k L (n : Int) = some (L ++ venc n) := by
  have := venc_len10 n h
  rw [assayerref1_PutVar.f, Option.bind_some, if_pos (by simp; omega), List.nil_append, rput_l0 n k L h (by omega) (by omega)]

/-- one round of the document's Take, at a byte -/
theorem rtake_round (k : Nat) (L : List Int) (bits : Nat) (v : Int) (i : Nat) (x : Nat) (t : List Int) (hd : L.drop i = (x : Int) :: t) (hx : x < 256) (hb : 7 * i < bits) (hb2 : bits ≤ 64) :
    assayerref1_TakeVar.l0 (k + 1) L (bits : Int) v (i : Int) = assayerref1_TakeVar.j2 k L (bits : Int) v (i : Int) ((x % 128 : Nat) : Int) (decide (bits ≤ 7 * i + 7 ∧ (128 ≤ x ∨ 2 ^ (bits - 7 * i) ≤ x % 128))) := by
  obtain ⟨h1, h2, h3⟩ := rd_drop hd
  simp only [assayerref1_TakeVar.l0]
  rw [if_neg (by omega), if_pos (by omega), if_pos (by omega), h1, w64 (x := 7 * (i : Int)) (by omega) (by omega), w64 (x := (bits : Int) - 7 * (i : Int)) (by omega) (by omega), if_neg (by omega), Int.tmod_eq_emod_of_nonneg (by omega), show (x : Int) % 128 = ((x % 128 : Nat) : Int) by omega]
  have hp : 0 < 2 ^ (bits - 7 * i) := Nat.two_pow_pos _
  by_cases h7 : bits < 7 * i + 7
  · rw [if_pos (by omega), if_pos (by omega)]
    have hs : shr .u8 ((x % 128 : Nat) : Int) ((bits : Int) - 7 * (i : Int)) = ((x % 128 / 2 ^ (bits - 7 * i) : Nat) : Int) := by
      unfold shr
      rw [show ((bits : Int) - 7 * (i : Int)).toNat = bits - 7 * i by omega, Nat.min_eq_left (by simp only [IntKind.bits]; omega)]
      push_cast
      rfl
    rw [hs]
    by_cases hq : 2 ^ (bits - 7 * i) ≤ x % 128
    · have := Nat.div_pos hq hp
      rw [if_neg (by omega), decide_eq_true (show bits ≤ 7 * i + 7 ∧ (128 ≤ x ∨ 2 ^ (bits - 7 * i) ≤ x % 128) from ⟨by omega, .inr hq⟩)]
    · rw [Nat.div_eq_of_lt (by omega), if_pos (by rfl), if_pos (by omega)]
      congr 1
      rw [Bool.eq_iff_iff, decide_eq_true_eq, decide_eq_true_eq]
      constructor
      · intro h; exact ⟨by omega, .inl (by omega)⟩
      · rintro ⟨_, h | h⟩
        · omega
        · exact absurd h hq
  · rw [if_neg (by omega)]
    by_cases h8 : bits ≤ 7 * i + 7
    · rw [if_pos (by omega)]
      congr 1
      rw [Bool.eq_iff_iff, decide_eq_true_eq, decide_eq_true_eq]
      have e7 : bits - 7 * i = 7 := by omega
      rw [e7]
      constructor
      · intro h; exact ⟨by omega, .inl (by omega)⟩
      · rintro ⟨_, h | h⟩
        · omega
        · have : x % 128 < 2 ^ 7 := Nat.mod_lt _ (by decide)
          omega
    · rw [if_neg (by omega)]
      congr 1
      rw [eq_comm, decide_eq_false_iff_not]
      exact fun h => h8 h.1
theorem take_round2 (k : Nat) (L : List Int) (bits : Nat) (v : Int) (pos at_ : Nat) (x : Nat) (t : List Int) (hd : L.drop pos = (x : Int) :: t) (hx : x < 256) (hb : at_ < bits) (hb2 : bits ≤ 64) (hl : L.length < 1000000) :
    zig_Take.l0 (k + 1) L (bits : Int) v (pos : Int) (at_ : Int) = zig_Take.j2 k L (bits : Int) v ((pos + 1 : Nat) : Int) (at_ : Int) (x : Int) (decide (bits ≤ at_ + 7 ∧ (128 ≤ x ∨ 2 ^ (bits - at_) ≤ x % 128))) := by
  obtain ⟨h1, h2, h3⟩ := rd_drop hd
  have r := take_round k L bits 0 pos at_ x t hd hx hb hb2 hl
  simp only [zig_Take.l0] at r ⊢
  rw [if_neg (by omega), if_pos (by omega), if_pos (by omega), h1, w64 (by omega) (by omega), w64 (by omega) (by omega), and_128 (by omega) (by omega), and_127 (by omega) (by omega)]
  rw [show ((pos : Int) + 1) = ((pos + 1 : Nat) : Int) by omega]
  by_cases h7 : bits ≤ at_ + 7
  · rw [if_pos (by omega)]
    by_cases h8 : x < 128
    · rw [if_pos (by rw [if_pos (by omega)]), if_pos (by omega), IntKind.wrap_u64, show ((x : Int) % 128 % 18446744073709551616) = ((x % 128 : Nat) : Int) by omega]
      have hs : shr .u64 ((x % 128 : Nat) : Int) ((bits : Int) - (at_ : Int)) = ((x % 128 / 2 ^ (bits - at_) : Nat) : Int) := by
        unfold shr
        rw [show ((bits : Int) - (at_ : Int)).toNat = bits - at_ by omega, Nat.min_eq_left (by simp only [IntKind.bits]; omega)]
        push_cast
        rfl
      rw [hs]
      congr 1
      rw [Bool.eq_iff_iff, bne_iff_ne, decide_eq_true_eq]
      have hp : 0 < 2 ^ (bits - at_) := Nat.two_pow_pos _
      constructor
      · intro hne
        refine ⟨h7, .inr ?_⟩
        rcases Nat.lt_or_ge (x % 128) (2 ^ (bits - at_)) with hlt | hge
        · exact absurd (by rw [Nat.div_eq_of_lt hlt]; rfl) hne
        · exact hge
      · rintro ⟨_, h9 | h9⟩
        · omega
        · intro he
          have := Nat.div_pos h9 hp
          omega
    · rw [if_neg (by rw [if_neg (by omega)]; decide)]
      congr 1
      rw [eq_comm, decide_eq_true_eq]
      exact ⟨h7, .inl (by omega)⟩
  · rw [if_neg (by omega)]
    congr 1
    rw [eq_comm, decide_eq_false_iff_not]
    exact fun h => h7 h.1
theorem takes_same (L : List Int) (hL : ∀ x ∈ L, 0 ≤ x ∧ x ≤ 255) (hl : L.length < 1000000) (bits : Nat) (hb2 : bits ≤ 64) (d : Nat) : ∀ (i k : Nat) (v : Int), i + d = L.length → 7 * i < bits → 2 * d + 1 < k →
    ∃ r, zig_Take.l0 k L (bits : Int) v (i : Int) ((7 * i : Nat) : Int) = some r ∧ assayerref1_TakeVar.l0 k L (bits : Int) v (i : Int) = some r := by
  induction d with
  | zero =>
    intro i k v hi hb hk
    obtain ⟨k, rfl⟩ : ∃ m, k = m + 1 := ⟨k - 1, by omega⟩
    simp only [zig_Take.l0, assayerref1_TakeVar.l0]
    exact ⟨(0, 0, 3), by rw [if_pos (by omega)], by rw [if_pos (by omega), w64 (by omega) (by omega), if_neg (by omega)]⟩
  | succ d ih =>
    intro i k v hi hb hk
    obtain ⟨k, rfl⟩ : ∃ m, k = m + 1 + 1 := ⟨k - 2, by omega⟩
    have hx := hL L[i] (List.getElem_mem (by omega))
    obtain ⟨x, hxe⟩ := Int.eq_ofNat_of_zero_le hx.1
    have hd : L.drop i = (x : Int) :: L.drop (i + 1) := by rw [List.drop_eq_getElem_cons (by omega), hxe]
    have hx2 : x < 256 := by omega
    obtain ⟨h1, h2, _⟩ := rd_drop hd
    rw [take_round2 (k + 1) L bits v i (7 * i) x _ hd hx2 hb hb2 hl, rtake_round (k + 1) L bits v i x _ hd hx2 hb hb2]
    by_cases he : bits ≤ 7 * i + 7 ∧ (128 ≤ x ∨ 2 ^ (bits - 7 * i) ≤ x % 128)
    · rw [decide_eq_true he]
      simp only [zig_Take.j2, assayerref1_TakeVar.j2]
      exact ⟨(0, 0, 4), by rw [if_pos trivial], by rw [if_pos trivial]⟩
    · rw [decide_eq_false he]
      have hn : 128 ≤ x → ¬ bits ≤ 7 * i + 7 := fun h1 h => he ⟨h, .inl h1⟩
      have eA : zig_Take.j2 (k + 1) L (bits : Int) v ((i + 1 : Nat) : Int) ((7 * i : Nat) : Int) (x : Int) false = if x < 128 then some (Go.bits .or .u64 v (shl .u64 (IntKind.u64.wrap ((x % 128 : Nat) : Int)) ((7 * i : Nat) : Int)), ((i + 1 : Nat) : Int), 0) else zig_Take.l0 k L (bits : Int) (Go.bits .or .u64 v (shl .u64 (IntKind.u64.wrap ((x % 128 : Nat) : Int)) ((7 * i : Nat) : Int))) ((i + 1 : Nat) : Int) ((7 * (i + 1) : Nat) : Int) := by
        simp only [zig_Take.j2]
        rw [if_neg (show ¬ (false = true) by decide), if_pos (show (0 : Int) ≤ ((7 * i : Nat) : Int) by omega), and_128 (by omega) (by omega), and_127 (by omega) (by omega), show (x : Int) % 128 = ((x % 128 : Nat) : Int) by omega]
        by_cases c : x < 128
        · rw [if_pos c, if_pos (by rw [if_pos (by omega)])]
        · rw [if_neg c, if_neg (by rw [if_neg (by omega)]; decide), w64 (by omega) (by omega), show ((7 * i : Nat) : Int) + 7 = ((7 * (i + 1) : Nat) : Int) by omega]
      have eB : assayerref1_TakeVar.j2 (k + 1) L (bits : Int) v (i : Int) ((x % 128 : Nat) : Int) false = if x < 128 then some (Go.bits .or .u64 v (shl .u64 (IntKind.u64.wrap ((x % 128 : Nat) : Int)) ((7 * i : Nat) : Int)), ((i + 1 : Nat) : Int), 0) else assayerref1_TakeVar.l0 k L (bits : Int) (Go.bits .or .u64 v (shl .u64 (IntKind.u64.wrap ((x % 128 : Nat) : Int)) ((7 * i : Nat) : Int))) ((i + 1 : Nat) : Int) := by
        simp only [assayerref1_TakeVar.j2]
        rw [if_neg (show ¬ (false = true) by decide), w64 (x := 7 * (i : Int)) (by omega) (by omega), if_pos (show (0 : Int) ≤ 7 * (i : Int) by omega), if_pos (show (0 : Int) ≤ (i : Int) by omega), if_pos (show (i : Int) < (L.length : Int) by omega), h1, w64 (x := (i : Int) + 1) (by omega) (by omega), show (i : Int) + 1 = ((i + 1 : Nat) : Int) by omega, show 7 * (i : Int) = ((7 * i : Nat) : Int) by omega]
        by_cases c : x < 128
        · rw [if_pos c, if_pos (by omega)]
        · rw [if_neg c, if_neg (by omega)]
      rw [eA, eB]
      by_cases c : x < 128
      · rw [if_pos c, if_pos c]; exact ⟨_, rfl, rfl⟩
      · rw [if_neg c, if_neg c]
        have := hn (by omega)
        exact ih (i + 1) k _ (by omega) (by omega) (by omega)
theorem takes_all (L : List Int) (hL : ∀ x ∈ L, 0 ≤ x ∧ x ≤ 255) (hl : L.length ≤ 20) (b : Int) : ∃ r, zig_Take.f 100 L b = some r ∧ assayerref1_TakeVar.f 100 L b = some r := by
  rw [zig_Take.f, assayerref1_TakeVar.f]
  by_cases c1 : b < 1
  · rw [if_pos c1, if_pos c1]
    simp only [zig_Take.j0, assayerref1_TakeVar.j0]
    exact ⟨(0, 0, 1), by rw [if_pos trivial], by rw [if_pos trivial]⟩
  · rw [if_neg c1, if_neg c1]
    by_cases c2 : b > 64
    · rw [decide_eq_true c2]
      simp only [zig_Take.j0, assayerref1_TakeVar.j0]
      exact ⟨(0, 0, 1), by rw [if_pos trivial], by rw [if_pos trivial]⟩
    · rw [decide_eq_false c2]
      obtain ⟨n, rfl⟩ := Int.eq_ofNat_of_zero_le (show 0 ≤ b by omega)
      simp only [zig_Take.j0, assayerref1_TakeVar.j0]
      rw [if_neg (show ¬ (false = true) by decide), if_neg (show ¬ (false = true) by decide)]
      exact takes_same L hL (by omega) n (by omega) L.length 0 99 0 (by omega) (by omega) (by omega)
end Go.Proofs.Ythgimjbmjeidpaa.Zig
