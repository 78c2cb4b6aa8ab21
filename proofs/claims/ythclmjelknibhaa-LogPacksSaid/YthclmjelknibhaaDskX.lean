/- Functions of the program as trees: told by the program. -/
import Derived.Test.YthclmjelknibhaaEvU9
import Derived.Test.YthclmjelknibhaaDiskUU
import Derived.Test.YthclmjelknibhaaProg
namespace Go.Proofs.Ythclmjelknibhaa.Ev
open Go Go.RowKit
set_option linter.unusedVariables false
set_option linter.constructorNameAsVariable false
noncomputable section
noncomputable def f13 : XFunc := getX (toX Try.prog 13 [0, 1, 2, 3, 8, 9, 10, 13, 14, 15, 16, 17, 19, 27, 36, 43, 66, 84, 108, 112] 113)
noncomputable def f15 : XFunc := getX (toX Try.prog 15 [0, 2] 3)
noncomputable def f16 : XFunc := getX (toX Try.prog 16 [0, 1, 2, 7] 8)
noncomputable def f17 : XFunc := getX (toX Try.prog 17 [0, 1, 2, 3, 4, 5, 6, 7, 8, 12, 18] 19)
noncomputable def f18 : XFunc := getX (toX Try.prog 18 [0, 1, 2, 3, 4, 5, 10] 11)
noncomputable def f20 : XFunc := getX (toX Try.prog 20 [0, 1, 4, 5, 6, 11] 12)
noncomputable def f21 : XFunc := getX (toX Try.prog 21 [0, 1, 2, 3, 4, 5, 6, 7, 12] 13)
noncomputable def f26 : XFunc := getX (toX Try.prog 26 [0, 1, 2, 3, 4, 5, 10] 11)
noncomputable def f27 : XFunc := getX (toX Try.prog 27 [0, 2] 3)
noncomputable def f32 : XFunc := getX (toX Try.prog 32 [0, 1, 2, 3, 4, 5, 6, 7, 8, 9, 10, 11, 29, 45] 46)
noncomputable def f33 : XFunc := getX (toX Try.prog 33 [0, 2, 5] 6)
noncomputable def f34 : XFunc := getX (toX Try.prog 34 [0, 2, 3, 4, 5, 6, 16] 17)
noncomputable def f35 : XFunc := getX (toX Try.prog 35 [0, 2, 3, 4, 5, 6, 7, 8, 18] 19)
noncomputable def f36 : XFunc := getX (toX Try.prog 36 [0, 1, 4, 5, 10, 14, 27] 28)
noncomputable def f37 : XFunc := getX (toX Try.prog 37 [0, 2, 3, 4, 5, 6, 7, 8, 9, 12, 21, 33, 52, 57] 58)
noncomputable def f38 : XFunc := getX (toX Try.prog 38 [0, 1, 4, 5, 6, 7, 9, 12, 23, 29, 51, 59] 60)
noncomputable def f39 : XFunc := getX (toX Try.prog 39 [0, 2, 4] 5)
noncomputable def f40 : XFunc := getX (toX Try.prog 40 [0, 1, 4, 5, 7, 8, 9, 10, 13, 17, 18, 19, 20, 27, 35, 38, 50] 51)
noncomputable def f49 : XFunc := getX (toX Try.prog 49 [0, 2, 3, 6] 7)
noncomputable def f50 : XFunc := getX (toX Try.prog 50 [0, 1, 2, 3] 4)
noncomputable def f51 : XFunc := getX (toX Try.prog 51 [0, 2, 3, 5, 6, 8, 9, 10, 11, 12, 20, 25, 26, 27, 28] 29)
noncomputable def f52 : XFunc := getX (toX Try.prog 52 [0, 1, 2, 6, 17, 29] 30)
noncomputable def f53 : XFunc := getX (toX Try.prog 53 [0, 1, 4, 5, 7, 11, 23] 24)
noncomputable def f54 : XFunc := getX (toX Try.prog 54 [0, 1, 2] 3)
noncomputable def f55 : XFunc := getX (toX Try.prog 55 [] 0)
noncomputable def f56 : XFunc := getX (toX Try.prog 56 [0, 2, 4] 5)
noncomputable def f57 : XFunc := getX (toX Try.prog 57 [0, 1, 2, 3] 4)
noncomputable def f58 : XFunc := getX (toX Try.prog 58 [] 0)
noncomputable def f62 : XFunc := getX (toX Try.prog 62 [0, 1] 2)
noncomputable def f63 : XFunc := getX (toX Try.prog 63 [] 0)
noncomputable def f70 : XFunc := getX (toX Try.prog 70 [0, 1, 2, 6, 7, 8, 9, 18, 30] 31)
noncomputable def f71 : XFunc := getX (toX Try.prog 71 [0, 2, 3, 4, 5, 6, 11, 30] 31)
noncomputable def f72 : XFunc := getX (toX Try.prog 72 [0, 2, 3, 4, 5, 6, 7, 24, 41] 42)
noncomputable def f73 : XFunc := getX (toX Try.prog 73 [0, 2, 3, 4, 5, 6, 7, 8, 9, 26, 45] 46)
noncomputable def f74 : XFunc := getX (toX Try.prog 74 [0, 2, 9] 10)
noncomputable def f75 : XFunc := getX (toX Try.prog 75 [0, 2, 3, 6] 7)
noncomputable def f76 : XFunc := getX (toX Try.prog 76 [0, 1, 4, 5, 6, 14, 22] 23)
noncomputable def f81 : XFunc := getX (toX Try.prog 81 [0, 1, 4, 6, 16] 17)
noncomputable def f86 : XFunc := getX (toX Try.prog 86 [0, 1, 4, 5, 6, 12, 16, 21] 22)
noncomputable def f87 : XFunc := getX (toX Try.prog 87 [0, 2, 3, 4, 7, 8, 9, 13] 14)
noncomputable def f88 : XFunc := getX (toX Try.prog 88 [0, 1, 4, 5, 6, 7, 8, 15, 22] 23)
noncomputable def f89 : XFunc := getX (toX Try.prog 89 [0, 1, 4] 5)
noncomputable def f90 : XFunc := getX (toX Try.prog 90 [0, 1, 2, 6, 7, 8, 14, 29] 30)
noncomputable def f94 : XFunc := getX (toX Try.prog 94 [0, 2] 3)
noncomputable def f95 : XFunc := getX (toX Try.prog 95 [0, 1, 4, 5, 7, 8, 9, 16] 17)
noncomputable def dskL : List (Nat × XFunc) := [(13, f13), (15, f15), (16, f16), (17, f17), (18, f18), (20, f20), (21, f21), (26, f26), (27, f27), (32, f32), (33, f33), (34, f34), (35, f35), (36, f36), (37, f37), (38, f38), (39, f39), (40, f40), (49, f49), (50, f50), (51, f51), (52, f52), (53, f53), (54, f54), (55, f55), (56, f56), (57, f57), (58, f58), (62, f62), (63, f63), (70, f70), (71, f71), (72, f72), (73, f73), (74, f74), (75, f75), (76, f76), (81, f81), (86, f86), (87, f87), (88, f88), (89, f89), (90, f90), (94, f94), (95, f95)]
noncomputable def dskE (f : FuncId) : Option XFunc := look dskL f
def dskX : Callee := diskXX
end
end Go.Proofs.Ythclmjelknibhaa.Ev
