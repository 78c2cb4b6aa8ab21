/- OctetSums, the plain law: of two texts of one length, what is unlike in their sums is the sum of what is unlike in them, but for noughts' sum. No condition. -/
import Derived.Test.YthgimjbmjeidpaaOctetSum
namespace Go.Proofs.Ythgimjbmjeidpaa.Pure
open Go.RowKit Go.Proofs.Ythgimjbmjeidpaa.POctet Go.Proofs.YthgimjbmjeidpaaW.PrintWords Go.Proofs.YthgimjbmjeidpaaW.PrintLast Go.Proofs.YthgimjbmjeidpaaW.PrintMore Go.Proofs.Ythgimjbmjeidpaa.Aid Go.Proofs.Ythgimjbmjeidpaa.Octet

theorem set_next (pre : List Int) (m : Nat) (x : Int) : (pre ++ List.replicate (m + 1) 0).set pre.length x = pre ++ [x] ++ List.replicate m 0 := by
  rw [List.replicate_succ, List.set_append_right _ _ (Nat.le_refl _), Nat.sub_self, List.append_assoc]
  rfl

theorem zip_take (a b : List Int) (i : Nat) (ha : i < a.length) (hb : i < b.length) : List.zipWith (bits .xor .u8) (a.take (i + 1)) (b.take (i + 1)) = List.zipWith (bits .xor .u8) (a.take i) (b.take i) ++ [bits .xor .u8 (rd a (i : Int)) (rd b (i : Int))] := by
  rw [take_rd i ha, take_rd i hb, List.zipWith_append (by rw [List.length_take, List.length_take]; omega)]
  rfl

theorem zip_bytes (a b : List Int) : Bytes (List.zipWith (bits .xor .u8) a b) := by
  intro x hx
  obtain ⟨i, hi, rfl⟩ := List.getElem_of_mem hx
  rw [List.getElem_zipWith]
  simp only [bits, IntKind.wrap_u8]
  omega

theorem sums_end (a b : List Int) (ha : Bytes a) (hb : Bytes b) (n : Nat) (hna : n ≤ a.length) (hnb : n ≤ b.length) (hn : n ≤ 40) (k : Nat) (hk : 330 < k) :
    assayerlaw1_OctetSums.l0 (k + 1) a b (n : Int) (List.zipWith (bits .xor .u8) (a.take n) (b.take n)) (List.replicate n 0) (n : Int) = some true := by
  simp only [assayerlaw1_OctetSums.l0]
  have hla : (a.take n).length = n := by rw [List.length_take]; omega
  have hlb : (b.take n).length = n := by rw [List.length_take]; omega
  have hlz : (List.zipWith (bits .xor .u8) (a.take n) (b.take n)).length = n := by rw [List.length_zipWith, hla, hlb]; omega
  have hr0 : Bytes (List.replicate n 0) := fun x hx => by rw [List.mem_replicate] at hx; omega
  rw [if_neg (by omega), if_pos (by omega), if_pos (by omega), Int.toNat_natCast]
  rw [sum_ok _ (ha.take n) (by omega) k (by omega), Option.bind_some, if_pos (by omega), sum_ok _ (hb.take n) (by omega) k (by omega), Option.bind_some, sum_ok _ (zip_bytes _ _) (by omega) k (by omega), Option.bind_some, sum_ok _ hr0 (by rw [List.length_replicate]; omega) k (by rw [List.length_replicate]; omega), Option.bind_some]
  congr 1
  rw [beq_iff_eq]
  unfold sum
  rw [xor_nv, xor_nv]
  congr 1
  have e1 := crc_xor (a.take n) (b.take n) (BitVec.allOnes 32) (BitVec.allOnes 32) (by omega) (ha.take n) (hb.take n)
  have e2 := crc_xor (List.zipWith (bits .xor .u8) (a.take n) (b.take n)) (List.replicate n 0) (BitVec.allOnes 32) (BitVec.allOnes 32) (by rw [List.length_replicate]; omega) (zip_bytes _ _) hr0
  have e3 : List.zipWith (bits .xor .u8) (List.zipWith (bits .xor .u8) (a.take n) (b.take n)) (List.replicate n 0) = List.zipWith (bits .xor .u8) (a.take n) (b.take n) := by
    have hz := zip_bytes (a.take n) (b.take n)
    generalize List.zipWith (bits .xor .u8) (a.take n) (b.take n) = z at hz hlz
    apply List.ext_getElem
    · rw [List.length_zipWith, List.length_replicate]; omega
    · intro i h1 h2
      rw [List.getElem_zipWith, List.getElem_replicate, xor_zero, IntKind.wrap_u8]
      have := hz _ (List.getElem_mem h2)
      simp only [IntKind.bits]
      omega
  rw [e3] at e2
  rw [← BitVec.not_xor_left, ← BitVec.not_xor_right, BitVec.not_not, ← BitVec.not_xor_left, ← BitVec.not_xor_right, BitVec.not_not, ← e1, ← e2]

theorem sums_loop (a b : List Int) (ha : Bytes a) (hb : Bytes b) (n : Nat) (hna : n ≤ a.length) (hnb : n ≤ b.length) (hn : n ≤ 40) (d : Nat) : ∀ (i k : Nat), i + d = n → d + 340 < k →
    assayerlaw1_OctetSums.l0 k a b (n : Int) (List.zipWith (bits .xor .u8) (a.take i) (b.take i) ++ List.replicate d 0) (List.replicate n 0) (i : Int) = some true := by
  induction d with
  | zero =>
    intro i k hi hk
    obtain ⟨k, rfl⟩ : ∃ m, k = m + 1 := ⟨k - 1, by omega⟩
    obtain rfl : i = n := by omega
    rw [List.replicate_zero, List.append_nil]
    exact sums_end a b ha hb i hna hnb hn k (by omega)
  | succ d ih =>
    intro i k hi hk
    obtain ⟨k, rfl⟩ : ∃ m, k = m + 1 := ⟨k - 1, by omega⟩
    have hlz : (List.zipWith (bits .xor .u8) (a.take i) (b.take i)).length = i := by rw [List.length_zipWith, List.length_take, List.length_take]; omega
    simp only [assayerlaw1_OctetSums.l0]
    rw [if_pos (by omega), if_pos (by omega), if_pos (by omega), if_pos (by omega), if_pos (by rw [List.length_append, hlz, List.length_replicate]; omega), Int.toNat_natCast]
    have e := set_next (List.zipWith (bits .xor .u8) (a.take i) (b.take i)) d (bits .xor .u8 (rd a (i : Int)) (rd b (i : Int)))
    rw [hlz] at e
    rw [e, ← zip_take a b i (by omega) (by omega), w64 (by omega) (by omega), show (i : Int) + 1 = ((i + 1 : Nat) : Int) by omega]
    exact ih (i + 1) k (by omega) (by omega)

theorem OctetSums : assayerlaw1_OctetSums.Pure := by
  intro a b _ _ ha _ _ hb
  have hA := Bytes.of_wf ha
  have hB := Bytes.of_wf hb
  have go : ∀ n : Nat, n ≤ a.length → n ≤ b.length → n ≤ 40 → assayerlaw1_OctetSums.l0 400 a b (n : Int) (List.replicate n 0) (List.replicate n 0) 0 = some true := by
    intro n h1 h2 h3
    have := sums_loop a b hA hB n h1 h2 h3 n 0 400 (by omega) (by omega)
    rw [List.take_zero, List.take_zero, List.zipWith_nil_left, List.nil_append] at this
    exact this
  refine ⟨400, ?_⟩
  rw [assayerlaw1_OctetSums.f, assayerlaw1_begun.f, Option.bind_some, if_pos rfl]
  by_cases h1 : (b.length : Int) < (a.length : Int)
  · rw [if_pos h1]
    by_cases h2 : 40 < (b.length : Int)
    · rw [if_pos h2, if_pos (by decide)]; exact go 40 (by omega) (by omega) (by omega)
    · rw [if_neg h2, if_pos (by omega), Int.toNat_natCast, if_pos (by omega)]; exact go b.length (by omega) (by omega) (by omega)
  · rw [if_neg h1]
    by_cases h2 : 40 < (a.length : Int)
    · rw [if_pos h2, if_pos (by decide)]; exact go 40 (by omega) (by omega) (by omega)
    · rw [if_neg h2, if_pos (by omega), Int.toNat_natCast, if_pos (by omega)]; exact go a.length (by omega) (by omega) (by omega)

end Go.Proofs.Ythgimjbmjeidpaa.Pure
