import Derived.Test.YtoalknneifpehaaRows
import Derived.Test.YtoalknneifpehaaInit
import Derived.Test.YtoalknneifpehaaF06
import Derived.Test.YtoalknneifpehaaOpenO
import Derived.Test.YtoalknneifpehaaOpenX
import Derived.WalkKit
import Derived.ProofKit
import Derived.OpenShut
import Derived.ShutString
import Derived.ChangeOld
import Derived.Below
import Derived.SizedLaws
namespace Go.Proofs.Ytoalknneifpehaa.callsFixed
open Go.ChangeShapes Go.WideShapes Go.ChangeAt Go.RowKit
open Go.ChangeMaps (open_string shut_string)
open Go.Proofs.Ytoalknneifpehaa.Hand Go.Proofs.YtoalknneifpehaaW.PrintWords 
set_option linter.unusedVariables false
theorem own : ownKnob Try.prog.godebug = none := by kernel_rfl
theorem laidOut : laidOutB Try.prog = true := by kernel_rfl
set_option maxRecDepth 100000 in
theorem lifted (os : Os) (started : os.Started) (H : Type) (enc : TypeId × Value → H) :
    ReturnsInHanded {} Try.checked os 6 .any (Rows.callsFixedSpec.pre6 enc Try.prog Try.f6 Rows.callsFixedRow.domain false) (Rows.callsFixedSpec.post enc Try.prog Try.f6 false true false false) := by
  refine returnsInHanded_of_change_sized (C := Try.checked) own started (by kernel_rfl) Try.func6
    (ChangeSpec.witness6 (enc := enc) (C := Try.checked) false ⟨#[], #[.agg #[.int .u32 0, .int .u32 0, .int .u32 0, .int .u32 0, .int .u32 0, .string ByteArray.empty, .int .u32 0, .int .u32 0, .int .u32 0, .slice none 0 0, .slice none 0 0], .agg #[.int .u8 0, .int .u32 0, .slice none 0 0]], []⟩ 8 (by kernel_rfl) (by kernel_rfl) (by kernel_rfl) (by kernel_rfl)) ?_
  intro W base args ds gs before hval0 hW hcnd hsz0 _
  have hsz : (DataW.weightsEach Try.prog (Try.f6.params.toList ++ Rows.callsFixedSpec.plain.varTypes Try.prog) (ds ++ gs)).all (· ≤ reachBytes) = true := hsz0
  have hval : ∀ (j : Nat) t v, Try.f6.params[j]? = some t → args[j]? = some v → Value.okWide Try.prog W .any base t v := hval0
  have hW' := hW
  obtain ⟨p, q, hA0, hV, rfl, hfz, hnd⟩ := hW
  have hA : DataW.TrodAll enc Try.prog W 0 (fun _ => true) true Try.f6.params.toList args.toList ds p := hA0
  rw [Try.params6] at hA hval hsz
  obtain ⟨v0, vs0, d0, ds0, p0, q0, hargs, rfl, rfl, h0, r0⟩ := trodAll_cons hA
  obtain ⟨v1, vs1, d1, ds1, p1, q1, rfl, rfl, rfl, h1, r1⟩ := trodAll_cons r0
  obtain ⟨rfl, rfl, rfl⟩ := trodAll_nil r1
  obtain rfl : args = #[v0, v1] := by cases args; simp_all
  obtain ⟨rfl, rfl⟩ := trodVars_none hV
  have k0 := h0
  have lt0 : ∀ x ∈ p0, x.block < W.heap.size := by obtain ⟨m, hm⟩ := k0; exact DataW.trod_lt m _ _ _ hm
  have hw0 : ∀ n ∈ d0.weights Try.prog 28, n ≤ reachBytes := by
    intro n hn
    have := List.all_eq_true.1 hsz n (DataW.weights_mem_each (j := 0) (t := 28) rfl rfl n hn)
    simpa using this
  obtain ⟨x0, pp0, vv0, o0, f0, m0, s0, u0, g0, A0, c0, l0, B0, b0, y0, rfl, HW0⟩ := open_call (hval 0 28 v0 rfl rfl) h0 hw0
  have k1 := h1
  have lt1 : ∀ x ∈ p1, x.block < W.heap.size := by obtain ⟨m, hm⟩ := k1; exact DataW.trod_lt m _ _ _ hm
  have hw1 : ∀ n ∈ d1.weights Try.prog 45, n ≤ reachBytes := by
    intro n hn
    have := List.all_eq_true.1 hsz n (DataW.weights_mem_each (j := 1) (t := 45) rfl rfl n hn)
    simpa using this
  obtain ⟨u1, g1, A1, c1, l1, rfl, wu1, wg1, hc1, hC1, hok1, hz1⟩ := open_other (hval 1 45 v1 rfl rfl) h1 hw1
  clear hA0 hval0 hsz0 hsz
  have CA0 : Hand.CallA x0 pp0 vv0 o0 f0 m0 s0 u0 g0 l0 y0 := ⟨wf_u32 HW0.wx, wf_u32 HW0.wp, wf_u32 HW0.wv, wf_u32 HW0.wo, wf_u32 HW0.wf, wf_u32 HW0.ws, wf_u32 HW0.wu, wf_u32 HW0.wg, fun n hn => wf_u32 (HW0.okA n hn), HW0.wm, by have := HW0.szA; omega, by have := HW0.szB; omega⟩
  refine (Hand.callsFixed_calls x0 pp0 vv0 o0 f0 m0 s0 u0 g0 A0 c0 l0 B0 b0 y0 A1 l1 c1 u1 g1 W CA0 HW0.hA HW0.cA HW0.hB HW0.cB hC1 hc1 (byteOk_of_wf HW0.okB) (byteOk_of_wf hok1) (by omega) (wf_u8 wu1) (wf_u32 wg1)).mono fun e W' ⟨he, bel⟩ => ?_
  subst he
  exact ⟨_, rfl, _, _, _, [], _, [], hW', trodAll_mk1 (shut_bool Try.underlying4 _), (trodAll_cons_mk (Below.trod laidOut (by kernel_rfl) (of_decide_eq_true (by kernel_rfl)) k0 bel lt0) (trodAll_cons_mk (Below.trod laidOut (by kernel_rfl) (of_decide_eq_true (by kernel_rfl)) k1 bel lt1) trodAll_mk0)), rfl, bel.frame _, fun h => by cases h⟩
theorem over : Rows.callsFixedRow.holds Try.pinned (OpenSpec.ofChange Rows.callsFixedSpec) :=
  OpenClaim.holds_of_wide 6 Try.f6 rfl rfl rfl rfl rfl rfl rfl ⟨rfl, rfl, rfl, rfl, rfl⟩ rfl rfl rfl rfl rfl (by kernel_rfl) Try.func6 (by show joinedFacts Try.prog 6 Try.f6 Rows.callsFixedSpec Rows.callsFixedRow = true; unfold joinedFacts; rw [Hand.io_may, Hand.io_lf, Hand.io_make]; kernel_rfl)
    (of_decide_eq_true (by kernel_rfl)) (by unfold Func.isWrapper; first | (rw [if_pos (by decide +kernel)]; kernel_rfl) | (rw [if_neg (by decide +kernel)]; exact ⟨rfl, rfl⟩))
    (fun os started H enc _ => lifted os started H enc)
theorem proved : Rows.CallsFixedSaid := over
#print axioms proved
end Go.Proofs.Ytoalknneifpehaa.callsFixed
namespace Go.Proofs.Ytoalknneifpehaa
/-- The row, under a short name, for the claim. -/
theorem callsFixed_holds : Rows.CallsFixedSaid := callsFixed.proved
end Go.Proofs.Ytoalknneifpehaa
