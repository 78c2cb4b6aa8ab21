/- What the law KindNests comes to, however it is run. -/
import Derived.Test.YtgejdfhfgphcbaaKindJ
import Derived.Test.YtgejdfhfgphcbaaKindC
namespace Go.Proofs.Ytgejdfhfgphcbaa.Ev
open Go Go.RowKit
set_option linter.unusedVariables false
theorem walkKindNests (W : World) (a : Option Addr) (len cap : Nat) (z : List Int) (hz : SliceArg W .u8 a len cap z) : Calls Try.prog 8 #[.slice a len cap] W fun e W' => e = .returned (.bool true) ∧ Below W.heap.size W W' := by
  have hwz : ∀ n ∈ z, (Lit.int .u8 n).wf = true := by
    rcases hz with ⟨_, _, _, rfl⟩ | ⟨x, C, elem, F, _, _, _, _, _, _, _, h⟩
    · intro n hn; cases hn
    · exact h
  obtain ⟨ρ, S, F, fv, h1, h2, h3, h4, h5, h6, h7⟩ := arg_slice (RelW.empty W) UR.empty Wf.empty hz
  rw [map_num hwz] at h5
  obtain ⟨F', h⟩ := s8 400 (by decide) h7 h5
  refine mainU_ok kind_mixed kind_is kind_X kindD_ok (f := 8) (xf := f8) (args := [fv]) rfl h2 h1 ⟨rfl, fun i h => ?_⟩ (by rw [h]; rfl)
  simp only [toVs, List.size_toArray, List.length_cons, List.length_nil] at h
  have hi : i = 0 := by omega
  subst hi
  simp only [toVs]
  exact fun _ => h4
end Go.Proofs.Ytgejdfhfgphcbaa.Ev
