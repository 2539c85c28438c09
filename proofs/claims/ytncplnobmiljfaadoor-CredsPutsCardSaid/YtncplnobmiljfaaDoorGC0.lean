-- Laid by a program of this session (wip/gprint.py), over the kit's print.
import Derived.Test.YtncplnobmiljfaaDoorProg
import Derived.Below
import Derived.Deep.Draws
import Derived.Deep.AppendLies
import Derived.Maps.AppendAt
import Derived.OwnWalk
import Derived.Laws.BytesArg
import Derived.Laws.MakeOwn
import Derived.Laws.OwnMore
import Derived.Deep.OwnRows
import Derived.Tactics
import Derived.Lib.ConvBytes
import Derived.Laws.Slices
import Derived.WalkKit
import Derived.KernelRfl
import Derived.RowKit3
import Derived.Deep.LoopGhost
import Derived.Deep.QuietTactic
import Derived.BigQuiet
import Derived.WideLaws
import Derived.Deep.DeepCutAuto
import Derived.Deep.CutBlock
import Derived.Deep.RegionHeld3
import Derived.Laws.Rows
import Derived.Lib.AppendStr
import Derived.ArgAppend
import Derived.Laws.IdiomCopy
import Derived.OrdersHeld
import Derived.Laws.BitsLemmas
import Derived.RowKit
import Derived.Test.YtncplnobmiljfaaDoorC3
import Derived.Test.YtncplnobmiljfaaDoorGB1
import Derived.Test.YtncplnobmiljfaaDoorWWords
import Derived.Test.YtncplnobmiljfaaDoorWLast
import Derived.Test.YtncplnobmiljfaaDoorWTab
import Derived.Test.YtncplnobmiljfaaDoorWFour
import Derived.Test.YtncplnobmiljfaaDoorWQPut
import Derived.Test.YtncplnobmiljfaaDoorWApart
import Derived.Test.YtncplnobmiljfaaDoorWArr
import Derived.Test.YtncplnobmiljfaaDoorWZeros
import Derived.Test.YtncplnobmiljfaaDoorWFoot
import Derived.Test.YtncplnobmiljfaaDoorWKept
import Derived.Test.YtncplnobmiljfaaDoorWShare
import Derived.Test.YtncplnobmiljfaaDoorWN
import Derived.Test.YtncplnobmiljfaaDoorWFootNe
import Derived.Test.YtncplnobmiljfaaDoorWAt
import Derived.Test.YtncplnobmiljfaaDoorWEqStruct
import Derived.Test.YtncplnobmiljfaaDoorWRepsOne
import Derived.Test.YtncplnobmiljfaaDoorWInv
import Derived.Test.YtncplnobmiljfaaDoorWInvWords
import Derived.Test.YtncplnobmiljfaaDoorWGuard
import Derived.Test.YtncplnobmiljfaaDoorWNEv
import Derived.Test.YtncplnobmiljfaaDoorWMore
namespace Go.Proofs.YtncplnobmiljfaaDoor.GC
open Go.RowKit Go.Proofs.YtncplnobmiljfaaDoorW.PrintWords Go.Proofs.YtncplnobmiljfaaDoorW.PrintLast Go.Proofs.YtncplnobmiljfaaDoor.Hand Go.Proofs.YtncplnobmiljfaaDoor.GB Go.Proofs.YtncplnobmiljfaaDoorW.PrintMore
attribute [local go_sem] max2_int min2_int max_two min_two max_three min_three max_four min_four   -- for this text's walks alone
set_option linter.unusedVariables false
set_option linter.unusedSimpArgs false



def errW : Option Int → Value
  | none => .nilIface
  | some c => .iface 0 (.int .i64 c)
theorem errW_none : errW none = .nilIface := rfl
theorem errW_some (c : Int) : errW (some c) = .iface 0 (.int .i64 c) := rfl

theorem info5 : (Tryd.prog.info? 5).map (fun i => (i.zero, i.size, i.bytes)) = some (some (.int .u8 0), 1, 1) := by kernel_rfl
theorem info26 : (Tryd.prog.info? 26).map (fun i => (i.zero, i.size, i.bytes)) = some (some (.int .u32 0), 1, 4) := by kernel_rfl
-- the values' own types

end Go.Proofs.YtncplnobmiljfaaDoor.GC
