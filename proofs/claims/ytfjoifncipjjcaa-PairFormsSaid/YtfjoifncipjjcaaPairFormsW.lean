/- What the law PairForms comes to, however it is run. -/
import Derived.Test.YtfjoifncipjjcaaPairForms
import Derived.Test.YtfjoifncipjjcaaPairC
namespace Go.Proofs.Ytfjoifncipjjcaa.Ev
open Go Go.RowKit
theorem walkPairForms (W : World) : Calls Try.prog 3 #[] W fun e W' => e = .returned (.bool true) ∧ Below W.heap.size W W' :=
  mainG_ok pair_mixed pair_is pair_X pairD_ok (f := 3) (xf := f3) rfl (RelW.empty W) ⟨rfl, fun i h => absurd h (by simp)⟩ reckonPairForms
end Go.Proofs.Ytfjoifncipjjcaa.Ev
