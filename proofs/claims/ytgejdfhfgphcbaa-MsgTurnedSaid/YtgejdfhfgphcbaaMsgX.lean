/- Functions of the program as trees: told by the program. -/
import Derived.Test.YtgejdfhfgphcbaaEvU9
import Derived.Test.YtgejdfhfgphcbaaProg
namespace Go.Proofs.Ytgejdfhfgphcbaa.Ev
open Go Go.RowKit
set_option linter.unusedVariables false
set_option linter.constructorNameAsVariable false
noncomputable section
noncomputable def f3 : XFunc := getX (toX Try.prog 3 [0, 1, 2, 3, 5, 8, 9, 10, 11, 12, 13, 14, 15, 16, 17, 19, 35, 36, 48] 49)
noncomputable def f4 : XFunc := getX (toX Try.prog 4 [0, 1, 2, 3, 5, 8, 9, 10, 11, 12, 13, 15, 16, 18, 37, 38] 39)
noncomputable def f14 : XFunc := getX (toX Try.prog 14 [0, 1, 2, 3, 4] 5)
noncomputable def f15 : XFunc := getX (toX Try.prog 15 [0, 1, 3, 4, 5, 6, 7, 15, 16, 37, 53] 54)
noncomputable def f16 : XFunc := getX (toX Try.prog 16 [0, 1, 4, 5, 6, 7, 12, 17, 21, 30] 31)
noncomputable def f17 : XFunc := getX (toX Try.prog 17 [0, 1, 4, 5, 6, 7, 8, 9, 15, 26, 40, 70, 118] 119)
noncomputable def f18 : XFunc := getX (toX Try.prog 18 [0, 1, 3, 4, 5, 6, 11, 16, 33, 45] 46)
noncomputable def f19 : XFunc := getX (toX Try.prog 19 [0, 1, 4, 6] 7)
noncomputable def f52 : XFunc := getX (toX Try.prog 52 [0, 1, 4] 5)
noncomputable def f53 : XFunc := getX (toX Try.prog 53 [0, 1, 2, 6, 7, 8, 9, 18, 30] 31)
noncomputable def f54 : XFunc := getX (toX Try.prog 54 [0, 1, 4, 5, 10] 11)
noncomputable def f55 : XFunc := getX (toX Try.prog 55 [0, 18] 19)
noncomputable def f56 : XFunc := getX (toX Try.prog 56 [0, 2] 3)
noncomputable def f57 : XFunc := getX (toX Try.prog 57 [0, 1, 2, 13] 14)
noncomputable def f58 : XFunc := getX (toX Try.prog 58 [0, 1, 8] 9)
noncomputable def f59 : XFunc := getX (toX Try.prog 59 [0, 1, 4, 5, 6, 16] 17)
noncomputable def f60 : XFunc := getX (toX Try.prog 60 [0, 1, 16] 17)
noncomputable def f61 : XFunc := getX (toX Try.prog 61 [0, 1, 4, 5, 6, 8, 19, 36, 37, 40] 41)
noncomputable def f62 : XFunc := getX (toX Try.prog 62 [0, 1, 4, 13] 14)
noncomputable def f63 : XFunc := getX (toX Try.prog 63 [0, 2] 3)
noncomputable def f64 : XFunc := getX (toX Try.prog 64 [0, 1, 2, 6, 7, 8, 14, 29] 30)
noncomputable def f65 : XFunc := getX (toX Try.prog 65 [0, 1, 4] 5)
noncomputable def f66 : XFunc := getX (toX Try.prog 66 [0, 1, 4, 5, 9] 10)
noncomputable def f80 : XFunc := getX (toX Try.prog 80 [0, 1, 4] 5)
noncomputable def f81 : XFunc := getX (toX Try.prog 81 [0, 2, 3] 4)
noncomputable def f82 : XFunc := getX (toX Try.prog 82 [0, 1, 4] 5)
noncomputable def f83 : XFunc := getX (toX Try.prog 83 [0, 2, 3, 10] 11)
noncomputable def f84 : XFunc := getX (toX Try.prog 84 [0, 1] 2)
noncomputable def f85 : XFunc := getX (toX Try.prog 85 [0, 2, 3, 4, 5, 10] 11)
noncomputable def f86 : XFunc := getX (toX Try.prog 86 [0, 1, 8] 9)
noncomputable def f87 : XFunc := getX (toX Try.prog 87 [0, 1, 4, 5, 10, 35, 51] 52)
noncomputable def f88 : XFunc := getX (toX Try.prog 88 [0, 1, 4, 5, 6, 7, 8, 15, 22] 23)
noncomputable def f89 : XFunc := getX (toX Try.prog 89 [0, 1, 4, 5, 6, 7, 8, 9, 10, 16, 22, 26, 58, 70] 71)
noncomputable def f90 : XFunc := getX (toX Try.prog 90 [0, 2, 4] 5)
noncomputable def f101 : XFunc := getX (toX Try.prog 101 [0, 1, 4, 5, 25] 26)
noncomputable def f102 : XFunc := getX (toX Try.prog 102 [0, 1, 4, 5, 6, 12, 16, 21] 22)
noncomputable def f103 : XFunc := getX (toX Try.prog 103 [0, 1, 4, 5, 6, 7, 8, 9, 15, 21, 45, 55] 56)
noncomputable def msgL : List (Nat × XFunc) := [(3, f3), (4, f4), (14, f14), (15, f15), (16, f16), (17, f17), (18, f18), (19, f19), (52, f52), (53, f53), (54, f54), (55, f55), (56, f56), (57, f57), (58, f58), (59, f59), (60, f60), (61, f61), (62, f62), (63, f63), (64, f64), (65, f65), (66, f66), (80, f80), (81, f81), (82, f82), (83, f83), (84, f84), (85, f85), (86, f86), (87, f87), (88, f88), (89, f89), (90, f90), (101, f101), (102, f102), (103, f103)]
noncomputable def msgE (f : FuncId) : Option XFunc := look msgL f
def msgX : Callee := fun _ _ _ => none
end
end Go.Proofs.Ytgejdfhfgphcbaa.Ev
