/- The closed law MsgForms, reckoned. -/
import Derived.Test.YtgejdfhfgphcbaaMsgC
namespace Go.Proofs.Ytgejdfhfgphcbaa.Ev
open Go Go.RowKit
theorem reckonMsgForms : yes (clN msgE msgX 200 5 [] ⟨[], [], 0⟩) = true := by kernel_rfl
theorem walkMsgForms (W : World) : Calls Try.prog 5 #[] W fun e W' => e = .returned (.bool true) ∧ Below W.heap.size W W' := by
  obtain ⟨S', h⟩ := yes_of reckonMsgForms
  exact main_ok msg_mixed msg_is msg_X (f := 5) (xf := f5) rfl (RelW.empty W) ⟨rfl, fun i h => absurd h (by simp)⟩ h
end Go.Proofs.Ytgejdfhfgphcbaa.Ev
