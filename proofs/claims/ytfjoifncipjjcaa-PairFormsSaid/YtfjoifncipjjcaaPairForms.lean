/- The closed law PairForms, reckoned. -/
import Derived.Test.YtfjoifncipjjcaaPairY
namespace Go.Proofs.Ytfjoifncipjjcaa.Ev
open Go Go.RowKit
theorem reckonPairForms : yes (clG pairD 300 3 [] ⟨[], [], 0⟩) = true := by kernel_rfl
end Go.Proofs.Ytfjoifncipjjcaa.Ev
