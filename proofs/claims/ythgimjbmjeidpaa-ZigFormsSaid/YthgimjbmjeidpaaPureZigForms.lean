/- ZigForms: which bytes are numbers, in the examples of the statement: the whole of it is walked in <Name>PZigx4; nothing is left here. No condition. -/
import Derived.Test.YthgimjbmjeidpaaPZigx
namespace Go.Proofs.Ythgimjbmjeidpaa.Pure
open Go.Proofs.Ythgimjbmjeidpaa.PZig

theorem ZigForms : assayerlaw2_ZigForms.Pure := trivial

end Go.Proofs.Ythgimjbmjeidpaa.Pure
