/- ZigSmall, the plain law: a number with a sign takes one byte more for each 128 times that it lies further from nought. No condition. -/
import Derived.Test.YthgimjbmjeidpaaZigPlain
namespace Go.Proofs.Ythgimjbmjeidpaa.Pure
open Go.RowKit Go.Proofs.Ythgimjbmjeidpaa.PZig Go.Proofs.YthgimjbmjeidpaaW.PrintWords Go.Proofs.YthgimjbmjeidpaaW.PrintLast Go.Proofs.YthgimjbmjeidpaaW.PrintMore Go.Proofs.Ythgimjbmjeidpaa.Aid Go.Proofs.Ythgimjbmjeidpaa.Zig

theorem pow128 (m : Nat) (h : m ≤ 8) : 1 ≤ 128 ^ m ∧ 128 ^ m ≤ 72057594037927936 := ⟨Nat.pow_pos (by omega), Nat.le_trans (Nat.pow_le_pow_right (by omega) h) (by decide)⟩

theorem small_end (k : Nat) (v : Int) (n u : Nat) (hz : zig_Zig64.f v = some (u : Int)) (hu : u < 2 ^ 64) (hl : (venc u).length = n) (hk : 20 < k) :
    ((zig_Zig64.f v).bind fun t => (zig_Put.f k ([] : List Int) t).bind fun r => (some ((r.length : Int) == (n : Int)))) = some true := by
  rw [hz, Option.bind_some, put_f u k hu (by omega), Option.bind_some, hl, beq_self_eq_true]

theorem small_loop (v : Int) (u : Nat) (hz : zig_Zig64.f v = some (u : Int)) (hv : (u : Int) = zig v) (hu : u < 2 ^ 64) (d : Nat) : ∀ (k m : Nat), m + d = 8 → (m = 0 ∨ 128 ^ m ≤ u) → d + 25 < k →
    assayerlaw2_ZigSmall.l0 k v ((m + 1 : Nat) : Int) (-(64 * (128 ^ m : Nat) : Int)) (64 * (128 ^ m : Nat) - 1) = some true := by
  have key : ∀ m : Nat, m ≤ 8 → ((v < -(64 * (128 ^ m : Nat) : Int) ∨ v > 64 * (128 ^ m : Nat) - 1) ↔ 128 ^ (m + 1) ≤ u) := by
    intro m hm
    have h1 := pow128 m hm
    have h2 : 128 ^ (m + 1) = 128 ^ m * 128 := Nat.pow_succ ..
    unfold zig at hv
    split at hv <;> omega
  have stop : ∀ (m k : Nat), m ≤ 8 → (m = 0 ∨ 128 ^ m ≤ u) → ¬ 128 ^ (m + 1) ≤ u → 20 < k → assayerlaw2_ZigSmall.l0 (k + 1) v ((m + 1 : Nat) : Int) (-(64 * (128 ^ m : Nat) : Int)) (64 * (128 ^ m : Nat) - 1) = some true := by
    intro m k hm hlow hc hk
    have hk2 := (not_congr (key m hm)).mpr hc
    have hlen : (venc u).length = m + 1 := by
      have a1 := venc_len m u (by omega)
      have a2 : m + 1 ≤ (venc u).length := by
        rcases hlow with rfl | h
        · have := venc_pos u; omega
        · exact venc_ge m u h
      omega
    simp only [assayerlaw2_ZigSmall.l0]
    rw [if_pos (by omega), if_neg (fun h => hk2 (.inl h)), if_neg (fun h => hk2 (.inr h))]
    exact small_end k v (m + 1) u hz hu hlen hk
  induction d with
  | zero =>
    intro k m hm hlow hk
    obtain rfl : m = 8 := by omega
    obtain ⟨k, rfl⟩ : ∃ j, k = j + 2 := ⟨k - 2, by omega⟩
    by_cases hc : 128 ^ (8 + 1) ≤ u
    · have hk2 := (key 8 (by omega)).mpr hc
      have hlen : (venc u).length = 10 := by
        have a1 := venc_len10 u hu
        have a2 := venc_ge 9 u hc
        omega
      have fin : ∀ lo hi, assayerlaw2_ZigSmall.l0 (k + 1) v 10 lo hi = some true := by
        intro lo hi
        simp only [assayerlaw2_ZigSmall.l0]
        rw [if_neg (by omega)]
        exact small_end k v 10 u hz hu hlen (by omega)
      rw [assayerlaw2_ZigSmall.l0]
      rw [if_pos (by omega), show wrap64 (((8 + 1 : Nat) : Int) + 1) = 10 by unfold wrap64; omega]
      by_cases h1 : v < -(64 * (128 ^ 8 : Nat) : Int)
      · rw [if_pos h1]; exact fin _ _
      · rw [if_neg h1, if_pos (by omega)]; exact fin _ _
    · exact stop 8 (k + 1) (by omega) hlow hc (by omega)
  | succ d ih =>
    intro k m hm hlow hk
    obtain ⟨k, rfl⟩ : ∃ j, k = j + 1 := ⟨k - 1, by omega⟩
    by_cases hc : 128 ^ (m + 1) ≤ u
    · have hk2 := (key m (by omega)).mpr hc
      have h1 := pow128 m (by omega)
      have h2 := pow128 (m + 1) (by omega)
      have h3 : 128 ^ (m + 1) = 128 ^ m * 128 := Nat.pow_succ ..
      have e := ih k (m + 1) (by omega) (.inr hc) (by omega)
      rw [assayerlaw2_ZigSmall.l0]
      rw [if_pos (by omega), w64 (x := ((m + 1 : Nat) : Int) + 1) (by omega) (by omega), w64 (x := -(64 * (128 ^ m : Nat) : Int) * 128) (by omega) (by omega), w64 (x := (64 * (128 ^ m : Nat) - 1 : Int) * 128) (by omega) (by omega), w64 (by omega) (by omega)]
      rw [show ((m + 1 : Nat) : Int) + 1 = ((m + 1 + 1 : Nat) : Int) by omega, show -(64 * (128 ^ m : Nat) : Int) * 128 = -(64 * (128 ^ (m + 1) : Nat) : Int) by omega, show (64 * (128 ^ m : Nat) - 1 : Int) * 128 + 127 = 64 * (128 ^ (m + 1) : Nat) - 1 by omega]
      by_cases h4 : v < -(64 * (128 ^ m : Nat) : Int)
      · rw [if_pos h4]; exact e
      · rw [if_neg h4, if_pos (by omega)]; exact e
    · exact stop m k (by omega) hlow hc (by omega)

theorem ZigSmall : assayerlaw2_ZigSmall.Pure := by
  intro v hv
  obtain ⟨h0, h1⟩ := wf_i64 hv
  have hz0 : 0 ≤ zig v ∧ zig v ≤ 18446744073709551615 := by unfold zig; split <;> omega
  obtain ⟨u, hu⟩ := Int.eq_ofNat_of_zero_le hz0.1
  have e := small_loop v u (by rw [zig64 h0 h1, hu]) hu.symm (by omega) 8 (99 + 1) 0 (by omega) (.inl rfl) (by omega)
  refine ⟨99 + 1, ?_⟩
  rw [assayerlaw2_ZigSmall.f, zigBegun, Option.bind_some, if_pos rfl]
  exact e

end Go.Proofs.Ythgimjbmjeidpaa.Pure
