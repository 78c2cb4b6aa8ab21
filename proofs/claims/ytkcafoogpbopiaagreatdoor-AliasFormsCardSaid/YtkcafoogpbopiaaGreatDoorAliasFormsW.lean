/- What the law AliasForms comes to, however it is run. -/
import Derived.Test.YtkcafoogpbopiaaGreatDoorAliasForms
import Derived.Test.YtkcafoogpbopiaaGreatDoorAliasC
namespace Go.Proofs.YtkcafoogpbopiaaGreatDoor.Ev
open Go Go.RowKit
theorem walkAliasForms (W : World) : Calls Tryz.prog 6 #[] W fun e W' => e = .returned (.bool true) ∧ Below W.heap.size W W' :=
  mainU_ok alias_mixed alias_is alias_X aliasD_ok (f := 6) (xf := f6) (args := []) rfl UR.empty (RelW.empty W) ⟨rfl, fun i h => absurd h (by simp [toVs])⟩ reckonAliasForms
end Go.Proofs.YtkcafoogpbopiaaGreatDoor.Ev
