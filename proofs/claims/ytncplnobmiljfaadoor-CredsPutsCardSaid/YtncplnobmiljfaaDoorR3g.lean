import Derived.Test.YtncplnobmiljfaaDoorR1
import Derived.Test.YtncplnobmiljfaaDoorT1
import Derived.Test.YtncplnobmiljfaaDoorS2
namespace Go.Proofs.YtncplnobmiljfaaDoor.Hand
open Go.RowKit Go.Proofs.YtncplnobmiljfaaDoor.GB Go.Proofs.YtncplnobmiljfaaDoorW.PrintWords Go.Proofs.YtncplnobmiljfaaDoorW.PrintLast Go.Proofs.YtncplnobmiljfaaDoorW.PrintMore
set_option linter.unusedVariables false
set_option linter.unusedSimpArgs false

set_option maxHeartbeats 1000000 in
theorem ref03_Get_calls (A : Option Addr) (c : Nat) (l : List Int) (most : Int) (r1 : ByteArray) (r2 r3 : Int) (w : World) (hA : RB w A l) (hc : l.length ≤ c) (hb : byteOk l = true) (hl : l.length ≤ 140737488351232) (h : strings_Get.f l most = some (r1, r2, r3)) :
    Calls Tryd.prog 73 #[.slice A l.length c, .int .i64 most] w fun e w' => e = .returned (.tuple #[.string r1, .int .i64 r2, .int .i64 r3]) ∧ Below w.heap.size w w' := by
  unfold strings_Get.f at h
  obtain ⟨⟨x, n, e⟩, hx, h⟩ := Option.map_eq_some_iff.1 h
  obtain ⟨rfl, rfl, rfl⟩ : strOfNums x = r1 ∧ n = r2 ∧ e = r3 := by simpa using h
  clear h
  have HG := Aside0.mk (ref02_Get_calls A c l most x n e w hA hc hb hl hx)
  clear hA hx
  go_enter Tryd.func73, Tryd.ntmps73
  go_wp2_with fail
  refine HG.out.mono ?_
  rintro e1 w1 ⟨v, rfl, ho, hb1⟩
  obtain ⟨A1, c1, rfl, hle, hR⟩ := OB_reads ho
  have hs : (convert 23 9 (.slice A1 x.length c1)).run Tryd.prog w1 = .ok (.string (strOfNums x)) w1 := Kd.C_string (P := Tryd.prog) Tryd.underlying23 Tryd.underlying5 Tryd.underlying9 hR
  have HB := Aside0.mk hb1
  clear ho hle hR hb1
  go_wp2
  go_ret3
  exact ⟨rfl, HB.out⟩
end Go.Proofs.YtncplnobmiljfaaDoor.Hand
