/- The plain side of octet's sealed records: the document's sum is the program's, what is sealed, and what is a sealed record. -/
import Derived.Test.YthgimjbmjeidpaaOctetSum
namespace Go.Proofs.Ythgimjbmjeidpaa.Octet
open Go.RowKit Go.Proofs.Ythgimjbmjeidpaa.POctet Go.Proofs.YthgimjbmjeidpaaW.PrintWords Go.Proofs.YthgimjbmjeidpaaW.PrintLast Go.Proofs.YthgimjbmjeidpaaW.PrintMore Go.Proofs.Ythgimjbmjeidpaa.Aid

/-- the document's one bit, at a byte's bit r -/
def rstep (s b : BitVec 32) (r : Nat) : BitVec 32 := (s >>> (1 : Nat)) ^^^ (if (s ^^^ (b >>> r)).getLsbD 0 then M else 0#32)
theorem T_rstep (s b : BitVec 32) (r : Nat) : T (s ^^^ (b >>> r)) = rstep s b r ^^^ (b >>> (r + 1)) := by
  unfold T rstep
  rw [BitVec.ushiftRight_xor_distrib, BitVec.shiftRight_add, BitVec.xor_assoc, BitVec.xor_assoc]
  congr 1
  rw [BitVec.xor_comm]
theorem and_one (s : BitVec 32) : s &&& 1#32 = if s.getLsbD 0 then 1#32 else 0#32 := by
  apply BitVec.eq_of_getLsbD_eq
  intro i hi
  rw [BitVec.getLsbD_and]
  rcases Nat.eq_zero_or_pos i with rfl | h
  · cases s.getLsbD 0 <;> rfl
  · have : (1#32).getLsbD i = false := by
      rw [BitVec.getLsbD_one]
      simp; omega
    rw [this, Bool.and_false]
    cases s.getLsbD 0
    · simp
    · simp [this]
theorem rsum_step (k : Nat) (L : List Int) (hL : Bytes L) (s : BitVec 32) (j r : Nat) (hl : L.length < 1000000000000) (hj : j < L.length) (hr8 : r < 8) :
    assayerref1_Sum.l0 (k + 1) L (nv s) ((8 * j + r : Nat) : Int) = assayerref1_Sum.l0 k L (nv (rstep s (BitVec.ofInt 32 (rd L (j : Int))) r)) ((8 * j + (r + 1) : Nat) : Int) := by
  simp only [assayerref1_Sum.l0]
  have ht : Int.tmod ((8 * j + r : Nat) : Int) 8 = (r : Int) := by
    rw [Int.tmod_eq_emod_of_nonneg (by omega)]; omega
  have hd : wrap64 (Int.tdiv ((8 * j + r : Nat) : Int) 8) = (j : Int) := by
    rw [Int.tdiv_eq_ediv_of_nonneg (by omega), w64 (by omega) (by omega)]; omega
  have hr := hL.rd_ j hj
  rw [ht, hd, w64 (x := 8 * (L.length : Int)) (by omega) (by omega), if_pos (by omega), if_pos (by omega), if_pos (by omega), if_pos (by omega)]
  rw [show rd L (j : Int) % 4294967296 = nv (BitVec.ofInt 32 (rd L (j : Int))) by rw [nv_ofInt _ (by omega) (by omega)]; omega]
  generalize BitVec.ofInt 32 (rd L (j : Int)) = b
  have hs : shr .u32 (nv b) (r : Int) = nv (b >>> r) := by
    unfold shr nv
    rw [Int.toNat_natCast, Nat.min_eq_left (by simp only [IntKind.bits]; omega), BitVec.toNat_ushiftRight, Nat.shiftRight_eq_div_pow, Int.natCast_ediv, Int.natCast_pow]
    rfl
  have h1 : (nv s : Int) / (2 : Int) = nv (s >>> (1 : Nat)) := by
    unfold nv
    rw [BitVec.toNat_ushiftRight, Nat.shiftRight_eq_div_pow]
    omega
  have e1 : (1 : Int) = nv 1#32 := by decide
  have hc : (bits .and .u32 (nv s) 1 = bits .and .u32 (nv (b >>> r)) 1) ↔ ¬ (s ^^^ (b >>> r)).getLsbD 0 = true := by
    have d01 : ¬ nv 1#32 = nv 0#32 := by decide
    have d10 : ¬ nv 0#32 = nv 1#32 := by decide
    rw [e1, and_nv, and_nv, and_one, and_one, BitVec.getLsbD_xor]
    cases s.getLsbD 0 <;> cases (b >>> r).getLsbD 0 <;> simp [d01, d10]
  rw [hs, h1, w64 (x := ((8 * j + r : Nat) : Int) + 1) (by omega) (by omega)]
  by_cases hx : (s ^^^ (b >>> r)).getLsbD 0 = true
  · rw [if_neg (fun h => (hc.mp h) hx), show (2197175160 : Int) = nv M by decide, xor_nv]
    unfold rstep
    rw [if_pos hx]
    rfl
  · rw [if_pos (hc.mpr hx)]
    unfold rstep
    rw [if_neg hx, BitVec.xor_zero]
    rfl
theorem rsum_byte (k : Nat) (L : List Int) (hL : Bytes L) (s : BitVec 32) (j : Nat) (hl : L.length < 1000000000000) (hj : j < L.length) :
    assayerref1_Sum.l0 (k + 8) L (nv s) ((8 * j + 0 : Nat) : Int) = assayerref1_Sum.l0 k L (nv (T8 (s ^^^ BitVec.ofInt 32 (rd L (j : Int))))) ((8 * (j + 1) + 0 : Nat) : Int) := by
  rw [show k + 8 = (k + 7) + 1 from rfl, rsum_step _ L hL s j 0 hl hj (by omega)]
  rw [show k + 7 = (k + 6) + 1 from rfl, rsum_step _ L hL _ j (0 + 1) hl hj (by omega)]
  rw [show k + 6 = (k + 5) + 1 from rfl, rsum_step _ L hL _ j (0 + 1 + 1) hl hj (by omega)]
  rw [show k + 5 = (k + 4) + 1 from rfl, rsum_step _ L hL _ j (0 + 1 + 1 + 1) hl hj (by omega)]
  rw [show k + 4 = (k + 3) + 1 from rfl, rsum_step _ L hL _ j (0 + 1 + 1 + 1 + 1) hl hj (by omega)]
  rw [show k + 3 = (k + 2) + 1 from rfl, rsum_step _ L hL _ j (0 + 1 + 1 + 1 + 1 + 1) hl hj (by omega)]
  rw [show k + 2 = (k + 1) + 1 from rfl, rsum_step _ L hL _ j (0 + 1 + 1 + 1 + 1 + 1 + 1) hl hj (by omega)]
  rw [rsum_step _ L hL _ j (0 + 1 + 1 + 1 + 1 + 1 + 1 + 1) hl hj (by omega)]
  have hr := hL.rd_ j hj
  have hb8 : (BitVec.ofInt 32 (rd L (j : Int))) >>> 8 = 0#32 := by
    have h2 := nv_ofInt (rd L (j : Int)) (by omega) (by omega)
    apply BitVec.eq_of_toNat_eq
    rw [BitVec.toNat_ushiftRight, Nat.shiftRight_eq_div_pow]
    unfold nv at h2
    show _ = 0
    omega
  generalize BitVec.ofInt 32 (rd L (j : Int)) = b at hb8 ⊢
  have e : T8 (s ^^^ b) = rstep (rstep (rstep (rstep (rstep (rstep (rstep (rstep s b 0) b (0 + 1)) b (0 + 1 + 1)) b (0 + 1 + 1 + 1)) b (0 + 1 + 1 + 1 + 1)) b (0 + 1 + 1 + 1 + 1 + 1)) b (0 + 1 + 1 + 1 + 1 + 1 + 1)) b (0 + 1 + 1 + 1 + 1 + 1 + 1 + 1) := by
    unfold T8
    have h0 : s ^^^ b = s ^^^ (b >>> 0) := by simp
    rw [h0, T_rstep, T_rstep, T_rstep, T_rstep, T_rstep, T_rstep, T_rstep, T_rstep]
    rw [show b >>> (0 + 1 + 1 + 1 + 1 + 1 + 1 + 1 + 1) = 0#32 from hb8, BitVec.xor_zero]
  rw [e]
  rfl
theorem rsum_l0 (L : List Int) (hL : Bytes L) (hl : L.length < 1000000000000) (d : Nat) : ∀ (j k : Nat) (s : BitVec 32), j + d = L.length → 8 * d < k →
    assayerref1_Sum.l0 k L (nv s) ((8 * j + 0 : Nat) : Int) = some (nv (~~~ crc s (L.drop j))) := by
  induction d with
  | zero =>
    intro j k s hj hk
    obtain ⟨k, rfl⟩ : ∃ m, k = m + 1 := ⟨k - 1, by omega⟩
    simp only [assayerref1_Sum.l0]
    rw [w64 (x := 8 * (L.length : Int)) (by omega) (by omega), if_neg (by omega), List.drop_eq_nil_of_le (by omega), show (4294967295 : Int) = nv (BitVec.allOnes 32) by decide, xor_nv, BitVec.allOnes_xor]
    rfl
  | succ d ih =>
    intro j k s hj hk
    obtain ⟨k, rfl⟩ : ∃ m, k = m + 8 := ⟨k - 8, by omega⟩
    rw [rsum_byte k L hL s j hl (by omega), ih (j + 1) k _ (by omega) (by omega)]
    rw [List.drop_eq_getElem_cons (show j < L.length by omega), crc]
    have : rd L (j : Int) = L[j] := by
      unfold rd
      rw [Int.toNat_natCast, List.getD_eq_getElem?_getD, List.getElem?_eq_getElem (by omega)]
      rfl
    rw [this]
theorem rsum_ok (L : List Int) (hL : Bytes L) (hl : L.length < 1000000000000) (k : Nat) (hk : 8 * L.length < k) : assayerref1_Sum.f k L = some (sum L) := by
  rw [assayerref1_Sum.f, show (4294967295 : Int) = nv (BitVec.allOnes 32) by decide]
  exact rsum_l0 L hL hl L.length 0 k _ (by omega) (by omega)
theorem sum_range (L : List Int) : 0 ≤ sum L ∧ sum L ≤ 4294967295 := nv_range _

/-- a sealed record -/
def slr (L : List Int) : List Int := if L.length ≥ 16777216 then [] else beb (L.length : Int) 3 ++ L ++ beb (sum L) 4
theorem slr_ok (L : List Int) (hL : Bytes L) (hl : L.length < 100000000) (k : Nat) (hk : 8 * L.length + 30 < k) : octet_Seal.f k L = some (slr L) := by
  rw [octet_Seal.f, slr]
  by_cases h : L.length ≥ 16777216
  · rw [if_pos h, if_pos (by omega)]
  · have hs := sum_range L
    have p1 : octet_Put.f k [] (L.length : Int) 3 = _ := put_ok [] (by simp) (L.length : Int) 3 k (by omega) (by omega)
    have p2 : octet_Put.f k ([] ++ beb (L.length : Int) 3 ++ L) (sum L) 4 = _ := put_ok _ (by rw [List.length_append, List.length_append, beb_length]; simp; omega) (sum L) 4 k (by omega) (by omega)
    rw [if_neg h, if_neg (by omega), wraps_u64 (L.length : Int) (by omega) (by omega), p1, Option.bind_some, if_pos (by rw [List.length_append, beb_length]; simp; omega), sum_ok L hL (by omega) k (by omega), Option.bind_some, wraps_u64 (sum L) (by omega) (by omega), p2, Option.bind_some, List.nil_append]
/-- what a sealed record at the front holds -/
def useal (L : List Int) : List Int × Int × Int :=
  if 3 ≤ L.length ∧ be (L.take 3) + 7 ≤ (L.length : Int) then
    if be ((L.drop (3 + be (L.take 3)).toNat).take 4) = sum ((L.take (3 + be (L.take 3)).toNat).drop 3) then ((L.take (3 + be (L.take 3)).toNat).drop 3, 7 + be (L.take 3), 0) else ([], 0, 2)
  else ([], 0, 3)
theorem useal_ok (L : List Int) (hL : Bytes L) (hl : L.length < 100000000) (k : Nat) (hk : 8 * L.length + 30 < k) : octet_Unseal.f k L = some (useal L) := by
  obtain ⟨k, rfl⟩ : ∃ m, k = m + 1 := ⟨k - 1, by omega⟩
  rw [octet_Unseal.f, useal]
  by_cases h3 : 3 ≤ L.length
  · have hb := be_bound 3 (L.take 3) (by rw [List.length_take]; omega) (hL.take _)
    have e : octet_Take.f (k + 1) L 3 = some (be (L.take 3), 0) := take_ok L hL (by omega) 3 _ (by omega) h3 (by omega)
    rw [e, Option.bind_some, if_pos rfl]
    dsimp only
    rw [wraps_u64 (L.length : Int) (by omega) (by omega), wraps_u64 (3 + be (L.take 3)) (by omega) (by omega), wraps_u64 (3 + be (L.take 3) + 4) (by omega) (by omega)]
    by_cases hc : be (L.take 3) + 7 ≤ (L.length : Int)
    · rw [if_pos ⟨h3, hc⟩, show decide ((L.length : Int) < 3 + be (L.take 3) + 4) = false by rw [decide_eq_false_iff_not]; omega]
      simp only [octet_Unseal.j0]
      obtain ⟨m, hm⟩ := Int.eq_ofNat_of_zero_le (show 0 ≤ 3 + be (L.take 3) by omega)
      rw [if_neg (by decide), w64 (x := be (L.take 3)) (by omega) (by omega), w64 (x := 3 + be (L.take 3)) (by omega) (by omega), hm, Int.toNat_natCast]
      have hbd := be_bound 4 ((L.drop m).take 4) (by rw [List.length_take, List.length_drop]; omega) ((hL.drop _).take _)
      have e2 : octet_Take.f k (L.drop m) 4 = some (be ((L.drop m).take 4), 0) := take_ok _ (hL.drop _) (by rw [List.length_drop]; omega) 4 _ (by omega) (by rw [List.length_drop]; omega) (by omega)
      have hB := (hL.take m).drop 3
      have hlt : ((L.take m).drop 3).length ≤ L.length := by rw [List.length_drop, List.length_take]; omega
      rw [if_pos (by omega), if_pos (by omega), e2, Option.bind_some, if_pos (by omega), sum_ok _ hB (by omega) k (by omega), Option.bind_some]
      dsimp only
      rw [show be ((L.drop m).take 4) % 4294967296 = be ((L.drop m).take 4) by omega]
      by_cases hs : be ((L.drop m).take 4) = sum ((L.take m).drop 3)
      · rw [if_pos hs, if_pos hs, if_pos (by simp; omega), List.nil_append, w64 (by omega) (by omega)]
        rw [show (m : Int) + 4 = 7 + be (L.take 3) by omega]
      · rw [if_neg hs, if_neg hs]
    · rw [if_neg (fun h => hc h.2), show decide ((L.length : Int) < 3 + be (L.take 3) + 4) = true by rw [decide_eq_true_eq]; omega]
      simp only [octet_Unseal.j0]
      rw [if_pos trivial]
  · have e : octet_Take.f (k + 1) L 3 = some (0, 3) := take_short L 3 _ (by omega) (by omega) (by omega)
    rw [e, Option.bind_some, if_neg (by decide), if_neg (fun h => h3 h.1)]
    simp only [octet_Unseal.j0]
    rw [if_pos trivial]
end Go.Proofs.Ythgimjbmjeidpaa.Octet
