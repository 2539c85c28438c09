-- Laid by a program of this session (wip/gprint.py), over the kit's print.
import Derived.Test.YtncplnobmiljfaaProg
import Derived.Below
import Derived.Deep.Draws
import Derived.Deep.AppendLies
import Derived.Maps.AppendAt
import Derived.OwnWalk
import Derived.Laws.BytesArg
import Derived.Laws.MakeOwn
import Derived.Laws.OwnMore
import Derived.Deep.OwnRows
import Derived.Tactics
import Derived.Lib.ConvBytes
import Derived.Laws.Slices
import Derived.WalkKit
import Derived.KernelRfl
import Derived.RowKit3
import Derived.Deep.LoopGhost
import Derived.Deep.QuietTactic
import Derived.BigQuiet
import Derived.WideLaws
import Derived.Deep.DeepCutAuto
import Derived.Deep.CutBlock
import Derived.Deep.RegionHeld3
import Derived.Laws.Rows
import Derived.Lib.AppendStr
import Derived.ArgAppend
import Derived.Laws.IdiomCopy
import Derived.OrdersHeld
import Derived.Laws.BitsLemmas
import Derived.RowKit
import Derived.Test.YtncplnobmiljfaaH7
import Derived.Test.YtncplnobmiljfaaWWords
import Derived.Test.YtncplnobmiljfaaWLast
import Derived.Test.YtncplnobmiljfaaWTab
import Derived.Test.YtncplnobmiljfaaWFour
import Derived.Test.YtncplnobmiljfaaWQPut
import Derived.Test.YtncplnobmiljfaaWApart
import Derived.Test.YtncplnobmiljfaaWArr
import Derived.Test.YtncplnobmiljfaaWZeros
import Derived.Test.YtncplnobmiljfaaWFoot
import Derived.Test.YtncplnobmiljfaaWKept
import Derived.Test.YtncplnobmiljfaaWShare
import Derived.Test.YtncplnobmiljfaaWN
import Derived.Test.YtncplnobmiljfaaWFootNe
import Derived.Test.YtncplnobmiljfaaWAt
import Derived.Test.YtncplnobmiljfaaWEqStruct
import Derived.Test.YtncplnobmiljfaaWRepsOne
import Derived.Test.YtncplnobmiljfaaWInv
import Derived.Test.YtncplnobmiljfaaWInvWords
import Derived.Test.YtncplnobmiljfaaWGuard
import Derived.Test.YtncplnobmiljfaaWNEv
import Derived.Test.YtncplnobmiljfaaWMore
namespace Go.Proofs.Ytncplnobmiljfaa.GB
open Go.RowKit Go.Proofs.YtncplnobmiljfaaW.PrintWords Go.Proofs.YtncplnobmiljfaaW.PrintLast Go.Proofs.Ytncplnobmiljfaa.Hand Go.Proofs.YtncplnobmiljfaaW.PrintMore
attribute [local go_sem] max2_int min2_int max_two min_two max_three min_three max_four min_four   -- for this text's walks alone
set_option linter.unusedVariables false
set_option linter.unusedSimpArgs false



def errW : Option Int → Value
  | none => .nilIface
  | some c => .iface 0 (.int .i64 c)
theorem errW_none : errW none = .nilIface := rfl
theorem errW_some (c : Int) : errW (some c) = .iface 0 (.int .i64 c) := rfl

-- the values' own types

end Go.Proofs.Ytncplnobmiljfaa.GB
