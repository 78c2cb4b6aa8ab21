/- The document's Put, Seal, Unseal are octet's: plain. -/
import Derived.Test.YthgimjbmjeidpaaOctetSeal
namespace Go.Proofs.Ythgimjbmjeidpaa.Octet
open Go.RowKit Go.Proofs.Ythgimjbmjeidpaa.POctet Go.Proofs.YthgimjbmjeidpaaW.PrintWords Go.Proofs.YthgimjbmjeidpaaW.PrintLast Go.Proofs.YthgimjbmjeidpaaW.PrintMore Go.Proofs.Ythgimjbmjeidpaa.Aid

theorem rput_l0 (L : List Int) (hl : L.length < 1000000000000) (n : Nat) : ∀ (k : Nat) (v : Int) (t : List Int), 0 ≤ v → v ≤ 18446744073709551615 → t.length + n ≤ 8 → n < k →
    assayerref1_Put.l0 k v (L ++ List.replicate n 0 ++ t) (L.length : Int) (((L.length + n : Nat) : Int) - 1) = some (L ++ beb v n ++ t) := by
  induction n with
  | zero =>
    intro k v t _ _ _ hk
    obtain ⟨k, rfl⟩ : ∃ m, k = m + 1 := ⟨k - 1, by omega⟩
    simp only [assayerref1_Put.l0]
    rw [if_neg (by omega)]
    rfl
  | succ n ih =>
    intro k v t hv0 hv1 ht hk
    obtain ⟨k, rfl⟩ : ∃ m, k = m + 1 := ⟨k - 1, by omega⟩
    simp only [assayerref1_Put.l0]
    rw [if_pos (by omega), if_pos (by omega), if_pos (by simp only [List.length_append, List.length_replicate]; omega)]
    rw [Int.tdiv_eq_ediv_of_nonneg hv0, Int.tmod_eq_emod_of_nonneg hv0, wraps_u64 (v / 256) (by omega) (by omega), show v % 256 % 256 = v % 256 by omega]
    rw [show (((L.length + (n + 1) : Nat) : Int) - 1).toNat = L.length + n by omega, set_rep, w64 (by omega) (by omega), show ((L.length + (n + 1) : Nat) : Int) - 1 - 1 = ((L.length + n : Nat) : Int) - 1 by omega]
    rw [ih k (v / 256) (v % 256 :: t) (by omega) (by omega) (by rw [List.length_cons]; omega) (by omega), beb]
    simp
theorem rput_ok (L : List Int) (hl : L.length < 1000000000000) (v : Int) (hv0 : 0 ≤ v) (hv1 : v ≤ 18446744073709551615) (n k : Nat) (hn : n ≤ 8) (hk : 20 < k) : assayerref1_Put.f k L v (n : Int) = some (L ++ beb v n) := by
  obtain ⟨k, rfl⟩ : ∃ m, k = m + 2 := ⟨k - 2, by omega⟩
  rw [assayerref1_Put.f, Option.bind_some, if_pos (by simp; omega), Option.bind_some, List.nil_append, if_neg (by omega), show decide ((n : Int) > 8) = false by rw [decide_eq_false_iff_not]; omega]
  simp only [assayerref1_Put.j0]
  rw [if_neg (by decide), if_pos (by omega), Int.toNat_natCast, if_pos (by omega), Option.bind_some, List.length_append, List.length_replicate, w64 (by omega) (by omega)]
  have := rput_l0 L hl n (k + 1) v [] hv0 hv1 (by simpa using hn) (by omega)
  rw [List.append_nil, List.append_nil] at this
  exact this
theorem rslr_ok (L : List Int) (hL : Bytes L) (hl : L.length < 100000000) (k : Nat) (hk : 8 * L.length + 30 < k) : assayerref1_Seal.f k L = some (slr L) := by
  rw [assayerref1_Seal.f, slr]
  by_cases h : L.length ≥ 16777216
  · rw [if_pos h, if_pos (by omega)]
  · have hs := sum_range L
    have p1 : assayerref1_Put.f k [] (L.length : Int) 3 = _ := rput_ok [] (by simp) (L.length : Int) (by omega) (by omega) 3 k (by omega) (by omega)
    have p2 : assayerref1_Put.f k ([] ++ beb (L.length : Int) 3 ++ L) (sum L) 4 = _ := rput_ok _ (by rw [List.length_append, List.length_append, beb_length]; simp; omega) (sum L) (by omega) (by omega) 4 k (by omega) (by omega)
    rw [if_neg h, if_neg (by omega), wraps_u64 (L.length : Int) (by omega) (by omega), p1, Option.bind_some, if_pos (by rw [List.length_append, beb_length]; simp; omega), rsum_ok L hL (by omega) k (by omega), Option.bind_some, wraps_u64 (sum L) (by omega) (by omega), p2, Option.bind_some, List.nil_append]
theorem ruseal_ok (L : List Int) (hL : Bytes L) (hl : L.length < 100000000) (k : Nat) (hk : 8 * L.length + 30 < k) : assayerref1_Unseal.f k L = some (useal L) := by
  obtain ⟨k, rfl⟩ : ∃ m, k = m + 1 := ⟨k - 1, by omega⟩
  rw [assayerref1_Unseal.f, useal]
  by_cases h3 : 3 ≤ L.length
  · have hb := be_bound 3 (L.take 3) (by rw [List.length_take]; omega) (hL.take _)
    have e : assayerref1_Take.f (k + 1) L 3 = some (be (L.take 3), 0) := rtake_ok L hL (by omega) 3 _ (by omega) h3 (by omega)
    rw [e, Option.bind_some, if_pos rfl]
    dsimp only
    rw [w64 (x := be (L.take 3)) (by omega) (by omega), w64 (x := 7 + be (L.take 3)) (by omega) (by omega)]
    by_cases hc : be (L.take 3) + 7 ≤ (L.length : Int)
    · rw [if_pos ⟨h3, hc⟩, show decide (7 + be (L.take 3) > (L.length : Int)) = false by rw [decide_eq_false_iff_not]; omega]
      simp only [assayerref1_Unseal.j0]
      obtain ⟨m, hm⟩ := Int.eq_ofNat_of_zero_le (show 0 ≤ 3 + be (L.take 3) by omega)
      rw [if_neg (by decide), Option.bind_some, w64 (x := 7 + be (L.take 3) - 4) (by omega) (by omega), show 7 + be (L.take 3) - 4 = (m : Int) by omega, Int.toNat_natCast, hm, Int.toNat_natCast]
      have hbd := be_bound 4 ((L.drop m).take 4) (by rw [List.length_take, List.length_drop]; omega) ((hL.drop _).take _)
      have e2 : assayerref1_Take.f k (L.drop m) 4 = some (be ((L.drop m).take 4), 0) := rtake_ok _ (hL.drop _) (by rw [List.length_drop]; omega) 4 _ (by omega) (by rw [List.length_drop]; omega) (by omega)
      have hB := (hL.take m).drop 3
      have hlt : ((L.take m).drop 3).length ≤ L.length := by rw [List.length_drop, List.length_take]; omega
      have hs := sum_range ((L.take m).drop 3)
      rw [if_pos (by omega), if_pos (by omega), if_pos (by simp; omega), Option.bind_some, List.nil_append, if_pos (by omega), e2, Option.bind_some, rsum_ok _ hB (by omega) k (by omega), Option.bind_some, wraps_u64 (sum _) (by omega) (by omega)]
      dsimp only
      by_cases hq : be ((L.drop m).take 4) = sum ((L.take m).drop 3)
      · rw [if_pos hq, if_pos hq]
      · rw [if_neg hq, if_neg hq]
    · rw [if_neg (fun h => hc h.2), show decide (7 + be (L.take 3) > (L.length : Int)) = true by rw [decide_eq_true_eq]; omega]
      simp only [assayerref1_Unseal.j0]
      rw [if_pos trivial]
  · have e : assayerref1_Take.f (k + 1) L 3 = some (0, 3) := rtake_short L 3 _ (by omega) (by omega) (by omega)
    rw [e, Option.bind_some, if_neg (by decide), if_neg (fun h => h3 h.1)]
    simp only [assayerref1_Unseal.j0]
    rw [if_pos trivial]
end Go.Proofs.Ythgimjbmjeidpaa.Octet
