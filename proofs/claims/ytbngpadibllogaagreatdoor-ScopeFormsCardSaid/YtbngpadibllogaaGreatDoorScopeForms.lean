/- The closed law ScopeForms, reckoned. -/
import Derived.Test.YtbngpadibllogaaGreatDoorScopeY
namespace Go.Proofs.YtbngpadibllogaaGreatDoor.Ev
open Go Go.RowKit
theorem reckonScopeForms : yes (clG scopeD 300 4 [] ⟨[], [], 0⟩) = true := by kernel_rfl
end Go.Proofs.YtbngpadibllogaaGreatDoor.Ev
