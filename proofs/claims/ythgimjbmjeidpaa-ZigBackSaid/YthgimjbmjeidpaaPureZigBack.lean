/- ZigBack, the plain law: numbers with and without a sign come back both ways, small ones are small, and the two sizes agree. No condition. -/
import Derived.Test.YthgimjbmjeidpaaPZigx2
import Derived.Test.YthgimjbmjeidpaaAid
namespace Go.Proofs.Ythgimjbmjeidpaa.Pure
open Go.RowKit Go.Proofs.Ythgimjbmjeidpaa.PZig Go.Proofs.YthgimjbmjeidpaaW.PrintWords Go.Proofs.YthgimjbmjeidpaaW.PrintLast Go.Proofs.Ythgimjbmjeidpaa.Aid

def zig (a : Int) : Int := if a < 0 then -2 * a - 1 else 2 * a
def zag (v : Int) : Int := if v % 2 = 1 then -1 - v / 2 else v / 2

theorem zig32 {a : Int} (h0 : -2147483648 ≤ a) (h1 : a ≤ 2147483647) : zig_Zig32.f a = some (zig a) := by
  unfold zig_Zig32.f zig
  congr 1
  by_cases hn : a < 0
  · rw [if_pos hn, xor_ones .u32 _ _ (by rw [show (a / 2147483648) % 4294967296 = 4294967295 by omega]; rfl), IntKind.wrap_u32]
    simp only [IntKind.bits]
    omega
  · rw [if_neg hn, show (a / 2147483648) % 4294967296 = 0 by omega, xor_zero, IntKind.wrap_u32]
    simp only [IntKind.bits]
    omega
theorem zig64 {a : Int} (h0 : -9223372036854775808 ≤ a) (h1 : a ≤ 9223372036854775807) : zig_Zig64.f a = some (zig a) := by
  unfold zig_Zig64.f zig
  congr 1
  by_cases hn : a < 0
  · rw [if_pos hn, xor_ones .u64 _ _ (by rw [IntKind.wrap_u64, show (a / 9223372036854775808) % 18446744073709551616 = 18446744073709551615 by omega]; rfl)]
    simp only [IntKind.wrap_u64, IntKind.bits]
    omega
  · rw [if_neg hn, show IntKind.u64.wrap (a / 9223372036854775808) = 0 by rw [IntKind.wrap_u64]; omega, xor_zero]
    simp only [IntKind.wrap_u64, IntKind.bits]
    omega
theorem zag32 {v : Int} (h0 : 0 ≤ v) (h1 : v ≤ 4294967295) : zig_Zag32.f v = some (zag v) := by
  unfold zig_Zag32.f zag
  congr 1
  rw [u32_and1 h0 h1]
  by_cases hn : v % 2 = 1
  · rw [if_pos hn, hn, show wrap32 (-wrap32 1) = -1 by unfold wrap32; omega, xor_ones .i32 _ _ (by decide)]
    simp only [IntKind.wrap_i32, IntKind.bits, wrap32]
    omega
  · rw [if_neg hn, show v % 2 = 0 by omega, show wrap32 (-wrap32 0) = 0 by unfold wrap32; omega, xor_zero]
    simp only [IntKind.wrap_i32, IntKind.bits, wrap32]
    omega
theorem zag64 {v : Int} (h0 : 0 ≤ v) (h1 : v ≤ 18446744073709551615) : zig_Zag64.f v = some (zag v) := by
  unfold zig_Zag64.f zag
  congr 1
  rw [u64_and1 h0 h1]
  by_cases hn : v % 2 = 1
  · rw [if_pos hn, hn, show wrap64 (-wrap64 1) = -1 by unfold wrap64; omega, xor_ones .i64 _ _ (by decide)]
    simp only [IntKind.wrap_i64, IntKind.bits, wrap64]
    omega
  · rw [if_neg hn, show v % 2 = 0 by omega, show wrap64 (-wrap64 0) = 0 by unfold wrap64; omega, xor_zero]
    simp only [IntKind.wrap_i64, IntKind.bits, wrap64]
    omega
theorem zigBegun : assayerlaw2_begun.f (39 + 1) = some true := by kernel_rfl

theorem ZigBack : assayerlaw2_ZigBack.Pure := by
  intro a b c d ha hb hc hd
  obtain ⟨ha0, ha1⟩ := wf_i32 ha
  obtain ⟨hb0, hb1⟩ := wf_u32 hb
  obtain ⟨hc0, hc1⟩ := wf_i64 hc
  obtain ⟨hd0, hd1⟩ := wf_u64 hd
  have j : ∀ k, assayerlaw2_ZigBack.j0 (k + 1) a b c d true = some true := by
    intro k
    have e1 : zig_Zag32.f (zig a) = some a := by rw [zag32 (by unfold zig; split <;> omega) (by unfold zig; split <;> omega)]; congr 1; unfold zag zig; split <;> split <;> omega
    have e2 : zig_Zig32.f (zag b) = some b := by rw [zig32 (by unfold zag; split <;> omega) (by unfold zag; split <;> omega)]; congr 1; unfold zag zig; split <;> split <;> omega
    have e3 : zig_Zag64.f (zig c) = some c := by rw [zag64 (by unfold zig; split <;> omega) (by unfold zig; split <;> omega)]; congr 1; unfold zag zig; split <;> split <;> omega
    have e4 : zig_Zig64.f (zag d) = some d := by rw [zig64 (by unfold zag; split <;> omega) (by unfold zag; split <;> omega)]; congr 1; unfold zag zig; split <;> split <;> omega
    have e5 : zig_Zig64.f (wrap64 a) = some (zig a) := by rw [show wrap64 a = a by unfold wrap64; omega]; exact zig64 (by omega) (by omega)
    have e6 : IntKind.u64.wrap (zig a) = zig a := by rw [IntKind.wrap_u64]; unfold zig; split <;> omega
    simp only [assayerlaw2_ZigBack.j0]
    simp only [zig32 ha0 ha1, zag32 hb0 hb1, zig64 hc0 hc1, zag64 hd0 hd1, e1, e2, e3, e4, e5, e6, Option.bind_some, if_true, beq_self_eq_true]
  have m : ∀ k, assayerlaw2_begun.f (k + 1) = some true → assayerlaw2_ZigBack.f (k + 1) a b c d = some true := by
    intro k hk
    unfold assayerlaw2_ZigBack.f
    rw [hk]
    simp only [Option.bind_some, if_true]
    by_cases h1 : a < -1000
    · rw [if_pos h1]; exact j k
    · rw [if_neg h1]
      by_cases h2 : a > 1000
      · rw [if_pos h2]; exact j k
      · rw [if_neg h2, zig32 ha0 ha1, Option.bind_some, show decide (zig a ≤ 2001) = true by rw [decide_eq_true_eq]; unfold zig; split <;> omega]
        exact j k
  exact ⟨39 + 1, m 39 zigBegun⟩

end Go.Proofs.Ythgimjbmjeidpaa.Pure
