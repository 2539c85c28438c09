import Derived.Test.YtoalknneifpehaaDoorRX
import Derived.Test.YtoalknneifpehaaDoorGQ1
namespace Go.Proofs.YtoalknneifpehaaDoor.Hand
open Go.RowKit Go.Proofs.YtoalknneifpehaaDoor.GB Go.Proofs.YtoalknneifpehaaDoorW.PrintWords Go.Proofs.YtoalknneifpehaaDoorW.PrintLast Go.Proofs.YtoalknneifpehaaDoorW.PrintMore
set_option linter.unusedVariables false
set_option linter.unusedSimpArgs false

/-! The document's own answers of chapter 02, in the shape of the printed contracts. -/
def wharfingerref02_Put.f (l0 : List Int) : Option (List Int) := if l0.length ≤ 1048580 then some (putL l0) else none
theorem wharfingerref02_Put.calls (A0 : Option Addr) (c0 : Nat) (l0 : List Int) (r : List Int) (w : World) (hr0 : Kd.C (Kd.int .u8) w A0 l0.length l0) (hc0 : l0.length ≤ c0) (h : wharfingerref02_Put.f l0 = some r) :
    Calls Tryd.prog 26 #[.slice A0 l0.length c0] w fun e w' => ∃ v0_ : Value, e = .returned (v0_) ∧ Kd.R (Kd.int .u8) 5 w' w.heap.size (fun _ => True) v0_ r ∧ Below w.heap.size w w' := by
  unfold wharfingerref02_Put.f at h
  split at h
  · rename_i h0
    obtain rfl := Option.some.inj h
    exact ref02_Put_calls A0 c0 l0 w hr0 hc0 h0
  · cases h
def wharfingerref02_Get.f (l0 : List Int) (a1 : Int) : Option (List Int × Int × Int) := if byteOk l0 = true ∧ l0.length ≤ 140737488351232 then opaque_Get.f l0 a1 else none
theorem wharfingerref02_Get.calls (A0 : Option Addr) (c0 : Nat) (l0 : List Int) (a1 : Int) (r1 : List Int) (r2 r3 : Int) (w : World) (hr0 : Kd.C (Kd.int .u8) w A0 l0.length l0) (hc0 : l0.length ≤ c0) (h : wharfingerref02_Get.f l0 a1 = some (r1, r2, r3)) :
    Calls Tryd.prog 56 #[.slice A0 l0.length c0, .int .i64 a1] w fun e w' => ∃ v0_ : Value, e = .returned (.tuple #[v0_, .int .i64 r2, .int .i64 r3]) ∧ Kd.R (Kd.int .u8) 5 w' w.heap.size (fun _ => True) v0_ r1 ∧ Below w.heap.size w w' := by
  unfold wharfingerref02_Get.f at h
  split at h
  · rename_i h0
    exact ref02_Get_calls A0 c0 l0 a1 r1 r2 r3 w hr0 hc0 h0.1 h0.2 h
  · cases h
end Go.Proofs.YtoalknneifpehaaDoor.Hand
