/- Functions that have no text. -/
import Derived.Test.YthclmjelknibhaaDiskX
import Derived.KernelRfl
import Derived.Lib.Bytealg
namespace Go.Proofs.Ythclmjelknibhaa.Ev
open Go Go.RowKit
set_option linter.unusedVariables false
set_option linter.constructorNameAsVariable false
theorem disk_mixed : Try.prog.follows .mixedOrders = true := by kernel_rfl
theorem disk_X : COk Try.prog diskX := diskXX_ok disk_mixed
end Go.Proofs.Ythclmjelknibhaa.Ev
