-- Written by xprint.py, a program of this session, out of the translation, by way of the kit's printer. Lean checks it.
import Derived.Test.YtgejdfhfgphcbaaPBigx0
import Derived.Test.YtgejdfhfgphcbaaPBigx1
import Derived.Test.YtgejdfhfgphcbaaPBigx2
import Derived.Test.YtgejdfhfgphcbaaPBigx3
import Derived.Test.YtgejdfhfgphcbaaPBigx4
import Derived.Test.YtgejdfhfgphcbaaPBigx5
import Derived.Test.YtgejdfhfgphcbaaPBigx6
import Derived.Test.YtgejdfhfgphcbaaPBigx7
namespace Go.Proofs.Ytgejdfhfgphcbaa.PBig
open Go.RowKit Go.Proofs.YtgejdfhfgphcbaaW.PrintWords Go.Proofs.YtgejdfhfgphcbaaW.PrintLast Go.Proofs.YtgejdfhfgphcbaaW.PrintMore
attribute [local go_sem] max2_int min2_int max_two min_two max_three min_three max_four min_four   -- for this text's walks alone
set_option linter.unusedVariables false
set_option linter.unusedSimpArgs false

end Go.Proofs.Ytgejdfhfgphcbaa.PBig
