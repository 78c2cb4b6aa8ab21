/- Functions of the program as trees: told by the program. -/
import Derived.Test.YtgejdfhfgphcbaaEvU9
import Derived.Test.YtgejdfhfgphcbaaProg
namespace Go.Proofs.Ytgejdfhfgphcbaa.Ev
open Go Go.RowKit
set_option linter.unusedVariables false
set_option linter.constructorNameAsVariable false
noncomputable section
noncomputable def f6 : XFunc := getX (toX Try.prog 6 [0, 1, 4, 5, 6, 7, 8, 9, 10, 11, 12, 13, 14, 16, 19, 41, 45, 56] 57)
noncomputable def f7 : XFunc := getX (toX Try.prog 7 [0, 2, 3, 4, 5, 6, 7, 8, 10, 13, 23, 67] 68)
noncomputable def f8 : XFunc := getX (toX Try.prog 8 [0, 2, 3, 4, 9, 11, 14, 18, 25, 29, 34, 49] 50)
noncomputable def f9 : XFunc := getX (toX Try.prog 9 [0, 1, 2, 3, 4, 5, 6, 9, 10, 15, 17, 24, 58, 62, 84] 85)
noncomputable def f10 : XFunc := getX (toX Try.prog 10 [0, 2, 3, 4, 5, 6, 7, 8, 9, 10, 11, 14, 16, 19, 24, 40, 44, 56, 74, 78, 116] 117)
noncomputable def f20 : XFunc := getX (toX Try.prog 20 [0, 1, 3, 4, 5, 10] 11)
noncomputable def f21 : XFunc := getX (toX Try.prog 21 [0, 2, 3, 4, 5, 6, 7, 8, 9, 16, 26, 30, 46] 47)
noncomputable def f22 : XFunc := getX (toX Try.prog 22 [0, 2, 3, 4, 5, 24, 32] 33)
noncomputable def f23 : XFunc := getX (toX Try.prog 23 [0, 2, 3, 16] 17)
noncomputable def f24 : XFunc := getX (toX Try.prog 24 [0, 2, 3, 4, 10, 13, 20, 31] 32)
noncomputable def f25 : XFunc := getX (toX Try.prog 25 [0, 2, 3] 4)
noncomputable def f26 : XFunc := getX (toX Try.prog 26 [0, 2, 3, 16] 17)
noncomputable def f27 : XFunc := getX (toX Try.prog 27 [0, 2, 3, 4, 5, 27, 33] 34)
noncomputable def f28 : XFunc := getX (toX Try.prog 28 [0, 2, 3, 4, 6, 8] 9)
noncomputable def f29 : XFunc := getX (toX Try.prog 29 [0, 2, 3, 4, 6, 8] 9)
noncomputable def f30 : XFunc := getX (toX Try.prog 30 [0, 1, 2, 3, 4, 8, 9, 10, 11, 12, 15, 20, 25, 38] 39)
noncomputable def f67 : XFunc := getX (toX Try.prog 67 [0, 2, 3, 4] 5)
noncomputable def f68 : XFunc := getX (toX Try.prog 68 [0, 1, 4] 5)
noncomputable def f69 : XFunc := getX (toX Try.prog 69 [0, 1, 4, 5, 6, 7, 8, 9, 10, 60, 80, 88, 93, 99, 105, 120, 124, 136, 145] 146)
noncomputable def f70 : XFunc := getX (toX Try.prog 70 [0, 1, 4, 5, 7, 8, 9, 16] 17)
noncomputable def f71 : XFunc := getX (toX Try.prog 71 [0, 1, 3] 4)
noncomputable def f72 : XFunc := getX (toX Try.prog 72 [0, 2, 3, 4, 6, 8, 10, 12, 14, 16, 18, 20, 22, 24] 25)
noncomputable def f91 : XFunc := getX (toX Try.prog 91 [0, 1, 4, 5, 6, 7, 8, 9, 23, 57, 73, 74, 75, 85] 86)
noncomputable def f92 : XFunc := getX (toX Try.prog 92 [0, 1, 2, 13] 14)
noncomputable def f93 : XFunc := getX (toX Try.prog 93 [0, 1, 4] 5)
noncomputable def f94 : XFunc := getX (toX Try.prog 94 [0, 2] 3)
noncomputable def f95 : XFunc := getX (toX Try.prog 95 [0, 2] 3)
noncomputable def f96 : XFunc := getX (toX Try.prog 96 [0, 2, 3, 5, 9, 27] 28)
noncomputable def f97 : XFunc := getX (toX Try.prog 97 [0, 2, 3, 4, 6, 8, 10, 12, 14, 16, 18, 20, 22, 24] 25)
noncomputable def f98 : XFunc := getX (toX Try.prog 98 [0, 1, 2, 6, 7, 12, 24] 25)
noncomputable def f99 : XFunc := getX (toX Try.prog 99 [0, 1, 26] 27)
noncomputable def f104 : XFunc := getX (toX Try.prog 104 [0, 2, 3, 85] 86)
noncomputable def f105 : XFunc := getX (toX Try.prog 105 [0, 2, 3, 36] 37)
noncomputable def f106 : XFunc := getX (toX Try.prog 106 [0, 2, 3, 4, 7] 8)
noncomputable def f107 : XFunc := getX (toX Try.prog 107 [0, 1, 33] 34)
noncomputable def f109 : XFunc := getX (toX Try.prog 109 [0, 2] 3)
noncomputable def kindL : List (Nat × XFunc) := [(6, f6), (7, f7), (8, f8), (9, f9), (10, f10), (20, f20), (21, f21), (22, f22), (23, f23), (24, f24), (25, f25), (26, f26), (27, f27), (28, f28), (29, f29), (30, f30), (67, f67), (68, f68), (69, f69), (70, f70), (71, f71), (72, f72), (91, f91), (92, f92), (93, f93), (94, f94), (95, f95), (96, f96), (97, f97), (98, f98), (99, f99), (104, f104), (105, f105), (106, f106), (107, f107), (109, f109)]
noncomputable def kindE (f : FuncId) : Option XFunc := look kindL f
def kindX : Callee := fun f args S => if f = 108 then xStr args S ixByte else none
end
end Go.Proofs.Ytgejdfhfgphcbaa.Ev
