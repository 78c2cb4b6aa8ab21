/- The closed law AliasForms, reckoned. -/
import Derived.Test.YtkcafoogpbopiaaGreatDoorAliasY
namespace Go.Proofs.YtkcafoogpbopiaaGreatDoor.Ev
open Go Go.RowKit
theorem reckonAliasForms : yesU (clU aliasD 300 6 [] ⟨.nil, .nil, 0⟩) = true := by kernel_rfl
end Go.Proofs.YtkcafoogpbopiaaGreatDoor.Ev
