-- Written by xprint.py, a program of this session, out of the translation, by way of the kit's printer. Lean checks it.
import Derived.Test.YthgimjbmjeidpaaPZigx0
import Derived.Test.YthgimjbmjeidpaaPZigx1
import Derived.Test.YthgimjbmjeidpaaPZigx2
import Derived.Test.YthgimjbmjeidpaaPZigx3
import Derived.Test.YthgimjbmjeidpaaPZigx4
import Derived.Test.YthgimjbmjeidpaaPZigx5
import Derived.Test.YthgimjbmjeidpaaPZigx6
import Derived.Test.YthgimjbmjeidpaaPZigx7
namespace Go.Proofs.Ythgimjbmjeidpaa.PZig
open Go.RowKit Go.Proofs.YthgimjbmjeidpaaW.PrintWords Go.Proofs.YthgimjbmjeidpaaW.PrintLast Go.Proofs.YthgimjbmjeidpaaW.PrintMore
attribute [local go_sem] max2_int min2_int max_two min_two max_three min_three max_four min_four   -- for this text's walks alone
set_option linter.unusedVariables false
set_option linter.unusedSimpArgs false

end Go.Proofs.Ythgimjbmjeidpaa.PZig
