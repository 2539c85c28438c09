-- Laid by a program of this session (wip/gprint.py), over the kit's print.
import Derived.Test.YtgodigappobicaaDoorProg
import Derived.Below
import Derived.Deep.Draws
import Derived.Deep.AppendLies
import Derived.Maps.AppendAt
import Derived.OwnWalk
import Derived.Laws.BytesArg
import Derived.Laws.MakeOwn
import Derived.Laws.OwnMore
import Derived.Deep.OwnRows
import Derived.Tactics
import Derived.Lib.ConvBytes
import Derived.Laws.Slices
import Derived.WalkKit
import Derived.KernelRfl
import Derived.RowKit3
import Derived.Deep.LoopGhost
import Derived.Deep.QuietTactic
import Derived.BigQuiet
import Derived.WideLaws
import Derived.Deep.DeepCutAuto
import Derived.Deep.CutBlock
import Derived.Deep.RegionHeld3
import Derived.Laws.Rows
import Derived.Lib.AppendStr
import Derived.ArgAppend
import Derived.Laws.IdiomCopy
import Derived.OrdersHeld
import Derived.Laws.BitsLemmas
import Derived.RowKit
import Derived.Test.YtgodigappobicaaDoorH7
import Derived.Test.YtgodigappobicaaDoorWWords
import Derived.Test.YtgodigappobicaaDoorWLast
import Derived.Test.YtgodigappobicaaDoorWTab
import Derived.Test.YtgodigappobicaaDoorWFour
import Derived.Test.YtgodigappobicaaDoorWQPut
import Derived.Test.YtgodigappobicaaDoorWApart
import Derived.Test.YtgodigappobicaaDoorWArr
import Derived.Test.YtgodigappobicaaDoorWZeros
import Derived.Test.YtgodigappobicaaDoorWFoot
import Derived.Test.YtgodigappobicaaDoorWKept
import Derived.Test.YtgodigappobicaaDoorWShare
import Derived.Test.YtgodigappobicaaDoorWN
import Derived.Test.YtgodigappobicaaDoorWFootNe
import Derived.Test.YtgodigappobicaaDoorWAt
import Derived.Test.YtgodigappobicaaDoorWEqStruct
import Derived.Test.YtgodigappobicaaDoorWRepsOne
import Derived.Test.YtgodigappobicaaDoorWInv
import Derived.Test.YtgodigappobicaaDoorWInvWords
import Derived.Test.YtgodigappobicaaDoorWGuard
import Derived.Test.YtgodigappobicaaDoorWNEv
import Derived.Test.YtgodigappobicaaDoorWMore
namespace Go.Proofs.YtgodigappobicaaDoor.GB
open Go.RowKit Go.Proofs.YtgodigappobicaaDoorW.PrintWords Go.Proofs.YtgodigappobicaaDoorW.PrintLast Go.Proofs.YtgodigappobicaaDoor.Hand Go.Proofs.YtgodigappobicaaDoorW.PrintMore
attribute [local go_sem] max2_int min2_int max_two min_two max_three min_three max_four min_four   -- for this text's walks alone
set_option linter.unusedVariables false
set_option linter.unusedSimpArgs false



def errW : Option Int → Value
  | none => .nilIface
  | some c => .iface 0 (.int .i64 c)
theorem errW_none : errW none = .nilIface := rfl
theorem errW_some (c : Int) : errW (some c) = .iface 0 (.int .i64 c) := rfl

-- the values' own types

end Go.Proofs.YtgodigappobicaaDoor.GB
