/- Plain lemmas on bits and bytes that the pure proofs share: no program in sight. -/
import Derived.Test.YthgimjbmjeidpaaXWords
import Derived.PlainAid
import Derived.Test.YthgimjbmjeidpaaWMore
import Derived.Test.YthgimjbmjeidpaaWLast
namespace Go.Proofs.Ythgimjbmjeidpaa.Aid
open Go.RowKit Go.Proofs.YthgimjbmjeidpaaW.PrintWords Go.Proofs.YthgimjbmjeidpaaW.PrintLast Go.Proofs.YthgimjbmjeidpaaW.PrintMore

theorem wf_u8 {x : Int} (h : (Lit.int .u8 x).wf = true) : 0 ≤ x ∧ x ≤ 255 := by
  simpa [Lit.wf, IntKind.min, IntKind.max, IntKind.signed, IntKind.bits] using h
theorem wf_u16 {x : Int} (h : (Lit.int .u16 x).wf = true) : 0 ≤ x ∧ x ≤ 65535 := by
  simpa [Lit.wf, IntKind.min, IntKind.max, IntKind.signed, IntKind.bits] using h
theorem wf_u32 {x : Int} (h : (Lit.int .u32 x).wf = true) : 0 ≤ x ∧ x ≤ 4294967295 := by
  simpa [Lit.wf, IntKind.min, IntKind.max, IntKind.signed, IntKind.bits] using h
theorem wf_u64 {x : Int} (h : (Lit.int .u64 x).wf = true) : 0 ≤ x ∧ x ≤ 18446744073709551615 := by
  simpa [Lit.wf, IntKind.min, IntKind.max, IntKind.signed, IntKind.bits] using h
theorem wf_i16 {x : Int} (h : (Lit.int .i16 x).wf = true) : -32768 ≤ x ∧ x ≤ 32767 := by
  simpa [Lit.wf, IntKind.min, IntKind.max, IntKind.signed, IntKind.bits] using h
theorem wf_i32 {x : Int} (h : (Lit.int .i32 x).wf = true) : -2147483648 ≤ x ∧ x ≤ 2147483647 := by
  simpa [Lit.wf, IntKind.min, IntKind.max, IntKind.signed, IntKind.bits] using h
theorem wf_i64 {x : Int} (h : (Lit.int .i64 x).wf = true) : -9223372036854775808 ≤ x ∧ x ≤ 9223372036854775807 := by
  simpa [Lit.wf, IntKind.min, IntKind.max, IntKind.signed, IntKind.bits] using h

theorem ofInt_toNat (n : Nat) (x : Int) : (BitVec.ofInt n x).toNat = (x % (2 ^ n : Nat)).toNat := by simp [BitVec.toNat_ofInt]

/-- xor with nought -/
theorem xor_zero (k : IntKind) (x : Int) : bits .xor k x 0 = k.wrap (x % (2 ^ k.bits : Nat)) := by
  have hp : (0 : Int) < (2 ^ k.bits : Nat) := by exact_mod_cast Nat.two_pow_pos k.bits
  simp only [bits]
  congr 1
  rw [show BitVec.ofInt k.bits 0 = 0#k.bits by simp, BitVec.xor_zero, ofInt_toNat]
  have := Int.emod_nonneg x (show ((2 ^ k.bits : Nat) : Int) ≠ 0 by omega)
  omega
theorem zero_xor (k : IntKind) (x : Int) : bits .xor k 0 x = k.wrap (x % (2 ^ k.bits : Nat)) := by
  have hp : (0 : Int) < (2 ^ k.bits : Nat) := by exact_mod_cast Nat.two_pow_pos k.bits
  simp only [bits]
  congr 1
  rw [show BitVec.ofInt k.bits 0 = 0#k.bits by simp, BitVec.zero_xor, ofInt_toNat]
  have := Int.emod_nonneg x (show ((2 ^ k.bits : Nat) : Int) ≠ 0 by omega)
  omega
/-- xor with all ones -/
theorem xor_ones (k : IntKind) (x y : Int) (h : BitVec.ofInt k.bits y = BitVec.allOnes k.bits) : bits .xor k x y = k.wrap ((2 ^ k.bits : Nat) - 1 - x % (2 ^ k.bits : Nat)) := by
  have hp : (0 : Int) < (2 ^ k.bits : Nat) := by exact_mod_cast Nat.two_pow_pos k.bits
  simp only [bits]
  congr 1
  rw [h, BitVec.xor_allOnes, BitVec.toNat_not, ofInt_toNat]
  have h1 := Int.emod_nonneg x (show ((2 ^ k.bits : Nat) : Int) ≠ 0 by omega)
  have h2 := Int.emod_lt_of_pos x hp
  omega
theorem or_128 {x : Int} (h0 : 0 ≤ x) (h1 : x ≤ 255) : bits .or .u8 x 128 = x % 128 + 128 := by
  obtain ⟨a, rfl⟩ := Int.eq_ofNat_of_zero_le h0
  have ha : a < 256 := by omega
  have key : ∀ b : Fin 256, ((b.val ||| 128 : Nat) : Int) = (b.val : Int) % 128 + 128 := by decide +kernel
  have := (bits_nat .u8 8 (by decide) wraps_u8 a 128 (by simpa using ha) (by decide)).2
  rw [show ((128 : Nat) : Int) = 128 from rfl] at this
  rw [this]
  exact key ⟨a, ha⟩
theorem and_128 {x : Int} (h0 : 0 ≤ x) (h1 : x ≤ 255) : bits .and .u8 x 128 = if x < 128 then 0 else 128 := by
  obtain ⟨a, rfl⟩ := Int.eq_ofNat_of_zero_le h0
  have ha : a < 256 := by omega
  have key : ∀ b : Fin 256, ((b.val &&& 128 : Nat) : Int) = if (b.val : Int) < 128 then 0 else 128 := by decide +kernel
  have := (bits_nat .u8 8 (by decide) wraps_u8 a 128 (by simpa using ha) (by decide)).1
  rw [show ((128 : Nat) : Int) = 128 from rfl] at this
  rw [this]
  exact key ⟨a, ha⟩
theorem and_127 {x : Int} (h0 : 0 ≤ x) (h1 : x ≤ 255) : bits .and .u8 x 127 = x % 128 := bits_mask .u8 8 (by decide) wraps_u8 7 (by decide) x h0 (by omega)
theorem wraps_u32 (n : Int) (h₀ : 0 ≤ n) (h₁ : n < 2 ^ 32) : IntKind.u32.wrap n = n := by rw [IntKind.wrap_u32]; omega
theorem wraps_u64 (n : Int) (h₀ : 0 ≤ n) (h₁ : n < 2 ^ 64) : IntKind.u64.wrap n = n := by rw [IntKind.wrap_u64]; omega
theorem u32_and1 {x : Int} (h0 : 0 ≤ x) (h1 : x ≤ 4294967295) : bits .and .u32 x 1 = x % 2 := bits_mask .u32 32 (by decide) wraps_u32 1 (by decide) x h0 (by omega)
theorem u64_and1 {x : Int} (h0 : 0 ≤ x) (h1 : x ≤ 18446744073709551615) : bits .and .u64 x 1 = x % 2 := bits_mask .u64 64 (by decide) wraps_u64 1 (by decide) x h0 (by omega)
theorem u64_join (i : Nat) {x y : Int} (hx0 : 0 ≤ x) (hx : x < 2 ^ i) (hy0 : 0 ≤ y) (hy : y % 2 ^ i = 0) (hx1 : x < 2 ^ 64) (hy1 : y < 2 ^ 64) : bits .or .u64 x y = x + y := by
  obtain ⟨a, rfl⟩ := Int.eq_ofNat_of_zero_le hx0
  obtain ⟨b, rfl⟩ := Int.eq_ofNat_of_zero_le hy0
  have e1 := (bits_nat .u64 64 (by decide) wraps_u64 a b (by exact_mod_cast hx1) (by exact_mod_cast hy1)).2
  have e2 := (bits_nat .u64 64 (by decide) wraps_u64 b a (by exact_mod_cast hy1) (by exact_mod_cast hx1)).2
  have := bits_join .u64 64 (by decide) wraps_u64 i (b : Int) (a : Int) hy0 hy hy1 hx0 hx hx1
  rw [e2] at this
  rw [e1, Nat.or_comm, this, Int.add_comm]
end Go.Proofs.Ythgimjbmjeidpaa.Aid
