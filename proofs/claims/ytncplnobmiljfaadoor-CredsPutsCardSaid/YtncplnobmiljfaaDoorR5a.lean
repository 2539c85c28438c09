import Derived.Test.YtncplnobmiljfaaDoorR3g
import Derived.Test.YtncplnobmiljfaaDoorR2
import Derived.Test.YtncplnobmiljfaaDoorQ03
import Derived.Test.YtncplnobmiljfaaDoorH5
import Derived.Test.YtncplnobmiljfaaDoorGC1
namespace Go.Proofs.YtncplnobmiljfaaDoor.Hand
open Go.RowKit Go.Proofs.YtncplnobmiljfaaDoor.GB Go.Proofs.YtncplnobmiljfaaDoorW.PrintWords Go.Proofs.YtncplnobmiljfaaDoorW.PrintLast Go.Proofs.YtncplnobmiljfaaDoorW.PrintMore
set_option linter.unusedVariables false
set_option linter.unusedSimpArgs false

/-! The document's own answers of chapters 01 and 03, in the shape of the printed contracts. -/
def wharfingerref01_Put.f (a0 : Int) : Option (List Int) := if 0 ≤ a0 ∧ a0 < 4294967296 then some (beL a0 4) else none
theorem wharfingerref01_Put.calls (a0 : Int) (r : List Int) (w : World) (h : wharfingerref01_Put.f a0 = some r) :
    Calls Tryd.prog 66 #[.int .u32 a0] w fun e w' => ∃ v0_ : Value, e = .returned (v0_) ∧ Kd.R (Kd.int .u8) 5 w' w.heap.size (fun _ => True) v0_ r ∧ Below w.heap.size w w' := by
  unfold wharfingerref01_Put.f at h
  split at h
  · rename_i h0
    obtain rfl := Option.some.inj h
    exact ref01_Put_calls a0 w h0.1 h0.2
  · cases h
def wharfingerref03_Put.f (a0 : ByteArray) : Option (List Int) := if a0.size ≤ 1048580 then some (putL (bytesOf a0)) else none
theorem wharfingerref03_Put.calls (a0 : ByteArray) (r : List Int) (w : World) (h : wharfingerref03_Put.f a0 = some r) :
    Calls Tryd.prog 11 #[.string a0] w fun e w' => ∃ v0_ : Value, e = .returned (v0_) ∧ Kd.R (Kd.int .u8) 5 w' w.heap.size (fun _ => True) v0_ r ∧ Below w.heap.size w w' := by
  unfold wharfingerref03_Put.f at h
  split at h
  · rename_i h0
    obtain rfl := Option.some.inj h
    exact ref03_Put_calls a0 w h0
  · cases h
def wharfingerref01_Get.f (l0 : List Int) : Option (Int × Int) := words_Get.f l0
theorem wharfingerref01_Get.calls (A0 : Option Addr) (c0 : Nat) (l0 : List Int) (r1 : Int) (r2 : Int) (w : World) (hr0 : Kd.C (Kd.int .u8) w A0 l0.length l0) (hc0 : l0.length ≤ c0) (h : wharfingerref01_Get.f l0 = some (r1, r2)) :
    Calls Tryd.prog 81 #[.slice A0 l0.length c0] w fun e w' => e = .returned (.tuple #[.int .u32 r1, .int .i64 r2]) ∧ Drawn0 w w' := by
  unfold wharfingerref01_Get.f words_Get.f at h
  split at h
  · rename_i h0
    simp only [Option.some.injEq, Prod.mk.injEq] at h
    obtain ⟨rfl, rfl⟩ := h
    refine (ref01_Get_calls A0 c0 l0 w hr0 hc0 h0).mono ?_
    rintro e w' ⟨rfl, rfl⟩
    exact ⟨rfl, Drawn0.refl _⟩
  · cases h
def wharfingerref03_Get.f (l0 : List Int) (a1 : Int) : Option (ByteArray × Int × Int) := if byteOk l0 = true ∧ l0.length ≤ 140737488351232 then strings_Get.f l0 a1 else none
theorem wharfingerref03_Get.calls (A0 : Option Addr) (c0 : Nat) (l0 : List Int) (a1 : Int) (r1 : ByteArray) (r2 r3 : Int) (w : World) (hr0 : Kd.C (Kd.int .u8) w A0 l0.length l0) (hc0 : l0.length ≤ c0) (h : wharfingerref03_Get.f l0 a1 = some (r1, r2, r3)) :
    Calls Tryd.prog 73 #[.slice A0 l0.length c0, .int .i64 a1] w fun e w' => e = .returned (.tuple #[.string r1, .int .i64 r2, .int .i64 r3]) ∧ Below w.heap.size w w' := by
  unfold wharfingerref03_Get.f at h
  split at h
  · rename_i h0
    exact ref03_Get_calls A0 c0 l0 a1 r1 r2 r3 w hr0 hc0 h0.1 h0.2 h
  · cases h
end Go.Proofs.YtncplnobmiljfaaDoor.Hand
