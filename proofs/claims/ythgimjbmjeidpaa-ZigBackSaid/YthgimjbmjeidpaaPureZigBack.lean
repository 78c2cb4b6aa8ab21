/- ZigBack, the plain law: numbers with and without a sign come back both ways, small ones are small, and the two sizes agree. No condition. -/
import Derived.Test.YthgimjbmjeidpaaZigPlain
namespace Go.Proofs.Ythgimjbmjeidpaa.Pure
open Go.RowKit Go.Proofs.Ythgimjbmjeidpaa.PZig Go.Proofs.YthgimjbmjeidpaaW.PrintWords Go.Proofs.YthgimjbmjeidpaaW.PrintLast Go.Proofs.YthgimjbmjeidpaaW.PrintMore Go.Proofs.Ythgimjbmjeidpaa.Aid Go.Proofs.Ythgimjbmjeidpaa.Zig

theorem ZigBack : assayerlaw2_ZigBack.Pure := by
  intro a b c d ha hb hc hd
  obtain ⟨ha0, ha1⟩ := wf_i32 ha
  obtain ⟨hb0, hb1⟩ := wf_u32 hb
  obtain ⟨hc0, hc1⟩ := wf_i64 hc
  obtain ⟨hd0, hd1⟩ := wf_u64 hd
  have j : ∀ k, assayerlaw2_ZigBack.j0 (k + 1) a b c d true = some true := by
    intro k
    have e1 : zig_Zag32.f (zig a) = some a := by rw [zag32 (by unfold zig; split <;> omega) (by unfold zig; split <;> omega)]; congr 1; unfold zag zig; split <;> split <;> omega
    have e2 : zig_Zig32.f (zag b) = some b := by rw [zig32 (by unfold zag; split <;> omega) (by unfold zag; split <;> omega)]; congr 1; unfold zag zig; split <;> split <;> omega
    have e3 : zig_Zag64.f (zig c) = some c := by rw [zag64 (by unfold zig; split <;> omega) (by unfold zig; split <;> omega)]; congr 1; unfold zag zig; split <;> split <;> omega
    have e4 : zig_Zig64.f (zag d) = some d := by rw [zig64 (by unfold zag; split <;> omega) (by unfold zag; split <;> omega)]; congr 1; unfold zag zig; split <;> split <;> omega
    have e5 : zig_Zig64.f (wrap64 a) = some (zig a) := by rw [show wrap64 a = a by unfold wrap64; omega]; exact zig64 (by omega) (by omega)
    have e6 : IntKind.u64.wrap (zig a) = zig a := by rw [IntKind.wrap_u64]; unfold zig; split <;> omega
    simp only [assayerlaw2_ZigBack.j0]
    simp only [zig32 ha0 ha1, zag32 hb0 hb1, zig64 hc0 hc1, zag64 hd0 hd1, e1, e2, e3, e4, e5, e6, Option.bind_some, if_true, beq_self_eq_true]
  have m : ∀ k, assayerlaw2_begun.f (k + 1) = some true → assayerlaw2_ZigBack.f (k + 1) a b c d = some true := by
    intro k hk
    unfold assayerlaw2_ZigBack.f
    rw [hk]
    simp only [Option.bind_some, if_true]
    by_cases h1 : a < -1000
    · rw [if_pos h1]; exact j k
    · rw [if_neg h1]
      by_cases h2 : a > 1000
      · rw [if_pos h2]; exact j k
      · rw [if_neg h2, zig32 ha0 ha1, Option.bind_some, show decide (zig a ≤ 2001) = true by rw [decide_eq_true_eq]; unfold zig; split <;> omega]
        exact j k
  exact ⟨99 + 1, m 99 zigBegun⟩


end Go.Proofs.Ythgimjbmjeidpaa.Pure
