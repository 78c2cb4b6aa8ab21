-- Written by xprint.py, a program of this session, out of the translation, by way of the kit's printer. Lean checks it.
import Derived.Test.YthgimjbmjeidpaaProg
import Derived.Below
import Derived.Deep.Draws
import Derived.Deep.AppendLies
import Derived.Maps.AppendAt
import Derived.OwnWalk
import Derived.Laws.BytesArg
import Derived.Laws.MakeOwn
import Derived.Laws.OwnMore
import Derived.Deep.OwnRows
import Derived.Tactics
import Derived.Lib.ConvBytes
import Derived.Laws.Slices
import Derived.WalkKit
import Derived.KernelRfl
import Derived.RowKit3
import Derived.Deep.LoopGhost
import Derived.Deep.QuietTactic
import Derived.BigQuiet
import Derived.WideLaws
import Derived.Deep.DeepCutAuto
import Derived.Deep.CutBlock
import Derived.Deep.RegionHeld3
import Derived.Laws.Rows
import Derived.Lib.AppendStr
import Derived.ArgAppend
import Derived.Laws.IdiomCopy
import Derived.OrdersHeld
import Derived.Laws.BitsLemmas
import Derived.RowKit
import Derived.Lib.SliceRun
import Derived.Test.YthgimjbmjeidpaaXWords
import Derived.Test.YthgimjbmjeidpaaWWords
import Derived.Test.YthgimjbmjeidpaaWLast
import Derived.Test.YthgimjbmjeidpaaWTab
import Derived.Test.YthgimjbmjeidpaaWFour
import Derived.Test.YthgimjbmjeidpaaWQPut
import Derived.Test.YthgimjbmjeidpaaWApart
import Derived.Test.YthgimjbmjeidpaaWArr
import Derived.Test.YthgimjbmjeidpaaWZeros
import Derived.Test.YthgimjbmjeidpaaWFoot
import Derived.Test.YthgimjbmjeidpaaWKept
import Derived.Test.YthgimjbmjeidpaaWShare
import Derived.Test.YthgimjbmjeidpaaWN
import Derived.Test.YthgimjbmjeidpaaWFootNe
import Derived.Test.YthgimjbmjeidpaaWAt
import Derived.Test.YthgimjbmjeidpaaWEqStruct
import Derived.Test.YthgimjbmjeidpaaWRepsOne
import Derived.Test.YthgimjbmjeidpaaWInv
import Derived.Test.YthgimjbmjeidpaaWInvWords
import Derived.Test.YthgimjbmjeidpaaWGuard
import Derived.Test.YthgimjbmjeidpaaWNEv
import Derived.Test.YthgimjbmjeidpaaWMore
namespace Go.Proofs.Ythgimjbmjeidpaa.PZig
open Go.RowKit Go.Proofs.YthgimjbmjeidpaaW.PrintWords Go.Proofs.YthgimjbmjeidpaaW.PrintLast Go.Proofs.YthgimjbmjeidpaaW.PrintMore
attribute [local go_sem] max2_int min2_int max_two min_two max_three min_three max_four min_four   -- for this text's walks alone
set_option linter.unusedVariables false
set_option linter.unusedSimpArgs false



def errW : Option Int → Value
  | none => .nilIface
  | some c => .iface 0 (.int .i64 c)
theorem errW_none : errW none = .nilIface := rfl
theorem errW_some (c : Int) : errW (some c) = .iface 0 (.int .i64 c) := rfl

theorem info5 : (Try.prog.info? 5).map (fun i => (i.zero, i.size, i.bytes)) = some (some (.int .u8 0), 1, 1) := by kernel_rfl
-- the values' own types

end Go.Proofs.Ythgimjbmjeidpaa.PZig
