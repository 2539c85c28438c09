/- What is put of a text is got. For any text and any bytes behind it. No condition. -/
import Derived.Test.YtncplnobmiljfaaG3B1
namespace Go.Proofs.Ytncplnobmiljfaa.Pure
open Go.RowKit Go.Proofs.Ytncplnobmiljfaa.G3B Go.Proofs.Ytncplnobmiljfaa.Hand Go.Proofs.YtncplnobmiljfaaW.PrintWords Go.Proofs.YtncplnobmiljfaaW.PrintLast

theorem StringsBack : wharfingerlaw03_StringsBack.Pure := by
  intro a0 l1 s0 m1 s1 w1
  unfold wharfingerlaw03_StringsBack.f
  rw [if_pos ⟨s0, by omega⟩]
end Go.Proofs.Ytncplnobmiljfaa.Pure
