/- What the law ScopeForms comes to, however it is run. -/
import Derived.Test.YtbngpadibllogaaGreatDoorScopeForms
import Derived.Test.YtbngpadibllogaaGreatDoorScopeC
namespace Go.Proofs.YtbngpadibllogaaGreatDoor.Ev
open Go Go.RowKit
theorem walkScopeForms (W : World) : Calls Tryz.prog 4 #[] W fun e W' => e = .returned (.bool true) ∧ Below W.heap.size W W' :=
  mainG_ok scope_mixed scope_is scope_X scopeD_ok (f := 4) (xf := f4) rfl (RelW.empty W) ⟨rfl, fun i h => absurd h (by simp)⟩ reckonScopeForms
end Go.Proofs.YtbngpadibllogaaGreatDoor.Ev
