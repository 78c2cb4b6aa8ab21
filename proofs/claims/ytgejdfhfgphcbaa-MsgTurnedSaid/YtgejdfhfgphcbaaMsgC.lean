/- Functions that have no text. -/
import Derived.Test.YtgejdfhfgphcbaaMsgX
import Derived.KernelRfl
import Derived.Lib.Bytealg
namespace Go.Proofs.Ytgejdfhfgphcbaa.Ev
open Go Go.RowKit
set_option linter.unusedVariables false
set_option linter.constructorNameAsVariable false
theorem msg_mixed : Try.prog.follows .mixedOrders = true := by kernel_rfl
theorem msg_X : COk Try.prog msgX := fun W0 ρ S w f args args' v S' _ _ h => by simp [msgX] at h
end Go.Proofs.Ytgejdfhfgphcbaa.Ev
