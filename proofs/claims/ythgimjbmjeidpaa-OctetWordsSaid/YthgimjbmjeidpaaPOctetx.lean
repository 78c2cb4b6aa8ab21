-- Written by xprint.py, a program of this session, out of the translation, by way of the kit's printer. Lean checks it.
import Derived.Test.YthgimjbmjeidpaaPOctetx0
import Derived.Test.YthgimjbmjeidpaaPOctetx1
import Derived.Test.YthgimjbmjeidpaaPOctetx2
import Derived.Test.YthgimjbmjeidpaaPOctetx3
import Derived.Test.YthgimjbmjeidpaaPOctetx4
import Derived.Test.YthgimjbmjeidpaaPOctetx5
import Derived.Test.YthgimjbmjeidpaaPOctetx6
import Derived.Test.YthgimjbmjeidpaaPOctetx7
import Derived.Test.YthgimjbmjeidpaaPOctetx8
import Derived.Test.YthgimjbmjeidpaaPOctetx9
namespace Go.Proofs.Ythgimjbmjeidpaa.POctet
open Go.RowKit Go.Proofs.YthgimjbmjeidpaaW.PrintWords Go.Proofs.YthgimjbmjeidpaaW.PrintLast Go.Proofs.YthgimjbmjeidpaaW.PrintMore
attribute [local go_sem] max2_int min2_int max_two min_two max_three min_three max_four min_four   -- for this text's walks alone
set_option linter.unusedVariables false
set_option linter.unusedSimpArgs false

end Go.Proofs.Ythgimjbmjeidpaa.POctet
