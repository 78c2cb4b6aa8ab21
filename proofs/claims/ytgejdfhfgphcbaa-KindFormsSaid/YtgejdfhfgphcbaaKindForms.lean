/- The closed law KindForms, reckoned. -/
import Derived.Test.YtgejdfhfgphcbaaKindC
namespace Go.Proofs.Ytgejdfhfgphcbaa.Ev
open Go Go.RowKit
theorem reckonKindForms : yes (clN kindE kindX 60 9 [] ⟨[], [], 0⟩) = true := by kernel_rfl
theorem walkKindForms (W : World) : Calls Try.prog 9 #[] W fun e W' => e = .returned (.bool true) ∧ Below W.heap.size W W' := by
  obtain ⟨S', h⟩ := yes_of reckonKindForms
  exact main_ok kind_mixed kind_is kind_X (f := 9) (xf := f9) rfl (RelW.empty W) ⟨rfl, fun i h => absurd h (by simp)⟩ h
end Go.Proofs.Ytgejdfhfgphcbaa.Ev
