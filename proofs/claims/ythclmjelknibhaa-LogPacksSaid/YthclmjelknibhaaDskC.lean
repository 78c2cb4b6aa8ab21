/- Functions that have no text. -/
import Derived.Test.YthclmjelknibhaaDskX
import Derived.KernelRfl
import Derived.Lib.Bytealg
namespace Go.Proofs.Ythclmjelknibhaa.Ev
open Go Go.RowKit
set_option linter.unusedVariables false
set_option linter.constructorNameAsVariable false
theorem dsk_mixed : Try.prog.follows .mixedOrders = true := by kernel_rfl
theorem dsk_X : COk Try.prog dskX := diskXX_ok dsk_mixed
end Go.Proofs.Ythclmjelknibhaa.Ev
