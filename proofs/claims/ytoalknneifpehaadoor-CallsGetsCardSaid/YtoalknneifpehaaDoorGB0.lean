-- Laid by a program of this session (wip/gprint.py), over the kit's print.
import Derived.Test.YtoalknneifpehaaDoorProg
import Derived.Below
import Derived.Deep.Draws
import Derived.Deep.AppendLies
import Derived.Maps.AppendAt
import Derived.OwnWalk
import Derived.Laws.BytesArg
import Derived.Laws.MakeOwn
import Derived.Laws.OwnMore
import Derived.Deep.OwnRows
import Derived.Tactics
import Derived.Lib.ConvBytes
import Derived.Laws.Slices
import Derived.WalkKit
import Derived.KernelRfl
import Derived.RowKit3
import Derived.Deep.LoopGhost
import Derived.Deep.QuietTactic
import Derived.BigQuiet
import Derived.WideLaws
import Derived.Deep.DeepCutAuto
import Derived.Deep.CutBlock
import Derived.Deep.RegionHeld3
import Derived.Laws.Rows
import Derived.Lib.AppendStr
import Derived.ArgAppend
import Derived.Laws.IdiomCopy
import Derived.OrdersHeld
import Derived.Laws.BitsLemmas
import Derived.RowKit
import Derived.Test.YtoalknneifpehaaDoorH7
import Derived.Test.YtoalknneifpehaaDoorWWords
import Derived.Test.YtoalknneifpehaaDoorWLast
import Derived.Test.YtoalknneifpehaaDoorWTab
import Derived.Test.YtoalknneifpehaaDoorWFour
import Derived.Test.YtoalknneifpehaaDoorWQPut
import Derived.Test.YtoalknneifpehaaDoorWApart
import Derived.Test.YtoalknneifpehaaDoorWArr
import Derived.Test.YtoalknneifpehaaDoorWZeros
import Derived.Test.YtoalknneifpehaaDoorWFoot
import Derived.Test.YtoalknneifpehaaDoorWKept
import Derived.Test.YtoalknneifpehaaDoorWShare
import Derived.Test.YtoalknneifpehaaDoorWN
import Derived.Test.YtoalknneifpehaaDoorWFootNe
import Derived.Test.YtoalknneifpehaaDoorWAt
import Derived.Test.YtoalknneifpehaaDoorWEqStruct
import Derived.Test.YtoalknneifpehaaDoorWRepsOne
import Derived.Test.YtoalknneifpehaaDoorWInv
import Derived.Test.YtoalknneifpehaaDoorWInvWords
import Derived.Test.YtoalknneifpehaaDoorWGuard
import Derived.Test.YtoalknneifpehaaDoorWNEv
import Derived.Test.YtoalknneifpehaaDoorWMore
namespace Go.Proofs.YtoalknneifpehaaDoor.GB
open Go.RowKit Go.Proofs.YtoalknneifpehaaDoorW.PrintWords Go.Proofs.YtoalknneifpehaaDoorW.PrintLast Go.Proofs.YtoalknneifpehaaDoor.Hand Go.Proofs.YtoalknneifpehaaDoorW.PrintMore
attribute [local go_sem] max2_int min2_int max_two min_two max_three min_three max_four min_four   -- for this text's walks alone
set_option linter.unusedVariables false
set_option linter.unusedSimpArgs false



def errW : Option Int → Value
  | none => .nilIface
  | some c => .iface 0 (.int .i64 c)
theorem errW_none : errW none = .nilIface := rfl
theorem errW_some (c : Int) : errW (some c) = .iface 0 (.int .i64 c) := rfl

-- the values' own types

end Go.Proofs.YtoalknneifpehaaDoor.GB
