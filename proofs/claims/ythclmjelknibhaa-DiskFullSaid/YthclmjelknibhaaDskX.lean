/- Functions of the program as trees: told by the program. -/
import Derived.Test.YthclmjelknibhaaEvU9
import Derived.Test.YthclmjelknibhaaDiskUU
import Derived.Test.YthclmjelknibhaaProg
namespace Go.Proofs.Ythclmjelknibhaa.Ev
open Go Go.RowKit
set_option linter.unusedVariables false
set_option linter.constructorNameAsVariable false
noncomputable section
noncomputable def f4 : XFunc := getX (toX Try.prog 4 [0, 1, 2, 3, 8, 9, 10, 12, 13, 14, 15, 17, 25, 41, 42, 45] 46)
noncomputable def f5 : XFunc := getX (toX Try.prog 5 [0, 1, 2, 3, 8, 9, 10, 11, 12, 13, 14, 16, 17, 19, 27, 43, 49, 75] 76)
noncomputable def f6 : XFunc := getX (toX Try.prog 6 [0, 1, 4, 5, 6, 7, 8, 9, 10, 12, 14, 17, 26, 47, 49, 51, 58] 59)
noncomputable def f14 : XFunc := getX (toX Try.prog 14 [0, 1, 2, 3, 4, 5, 6, 15] 16)
noncomputable def f15 : XFunc := getX (toX Try.prog 15 [0, 2] 3)
noncomputable def f16 : XFunc := getX (toX Try.prog 16 [0, 1, 2, 7] 8)
noncomputable def f17 : XFunc := getX (toX Try.prog 17 [0, 1, 2, 3, 4, 5, 6, 7, 8, 12, 18] 19)
noncomputable def f18 : XFunc := getX (toX Try.prog 18 [0, 1, 2, 3, 4, 5, 10] 11)
noncomputable def f20 : XFunc := getX (toX Try.prog 20 [0, 1, 4, 5, 6, 11] 12)
noncomputable def f21 : XFunc := getX (toX Try.prog 21 [0, 1, 2, 3, 4, 5, 6, 7, 12] 13)
noncomputable def f25 : XFunc := getX (toX Try.prog 25 [0, 2] 3)
noncomputable def f26 : XFunc := getX (toX Try.prog 26 [0, 1, 2, 3, 4, 5, 10] 11)
noncomputable def f27 : XFunc := getX (toX Try.prog 27 [0, 2] 3)
noncomputable def f28 : XFunc := getX (toX Try.prog 28 [0, 2, 3, 5] 6)
noncomputable def f49 : XFunc := getX (toX Try.prog 49 [0, 2, 3, 6] 7)
noncomputable def f50 : XFunc := getX (toX Try.prog 50 [0, 1, 2, 3] 4)
noncomputable def f51 : XFunc := getX (toX Try.prog 51 [0, 2, 3, 5, 6, 8, 9, 10, 11, 12, 20, 25, 26, 27, 28] 29)
noncomputable def f52 : XFunc := getX (toX Try.prog 52 [0, 1, 2, 6, 17, 29] 30)
noncomputable def f53 : XFunc := getX (toX Try.prog 53 [0, 1, 4, 5, 7, 11, 23] 24)
noncomputable def f54 : XFunc := getX (toX Try.prog 54 [0, 1, 2] 3)
noncomputable def f55 : XFunc := getX (toX Try.prog 55 [] 0)
noncomputable def f56 : XFunc := getX (toX Try.prog 56 [0, 2, 4] 5)
noncomputable def f57 : XFunc := getX (toX Try.prog 57 [0, 1, 2, 3] 4)
noncomputable def f58 : XFunc := getX (toX Try.prog 58 [] 0)
noncomputable def f62 : XFunc := getX (toX Try.prog 62 [0, 1] 2)
noncomputable def f63 : XFunc := getX (toX Try.prog 63 [] 0)
noncomputable def f64 : XFunc := getX (toX Try.prog 64 [0, 2, 4] 5)
noncomputable def f81 : XFunc := getX (toX Try.prog 81 [0, 1, 4, 6, 16] 17)
noncomputable def dskL : List (Nat × XFunc) := [(4, f4), (5, f5), (6, f6), (14, f14), (15, f15), (16, f16), (17, f17), (18, f18), (20, f20), (21, f21), (25, f25), (26, f26), (27, f27), (28, f28), (49, f49), (50, f50), (51, f51), (52, f52), (53, f53), (54, f54), (55, f55), (56, f56), (57, f57), (58, f58), (62, f62), (63, f63), (64, f64), (81, f81)]
noncomputable def dskE (f : FuncId) : Option XFunc := look dskL f
def dskX : Callee := diskXX
end
end Go.Proofs.Ythclmjelknibhaa.Ev
