import Derived.Test.YtnkeijebkpjdgaaRows
import Derived.Test.YtnkeijebkpjdgaaInit
import Derived.Test.YtnkeijebkpjdgaaMLookKeeps1
import Derived.Test.YtnkeijebkpjdgaaMLookKeeps2
import Derived.Test.YtnkeijebkpjdgaaMLookKeeps3
import Derived.Test.YtnkeijebkpjdgaaMLookKeeps4
import Derived.Test.YtnkeijebkpjdgaaMLookKeeps5
import Derived.Test.YtnkeijebkpjdgaaMLookKeeps6
import Derived.Test.YtnkeijebkpjdgaaMLookKeeps7
import Derived.Test.YtnkeijebkpjdgaaMLookKeeps8
import Derived.Test.YtnkeijebkpjdgaaMLookKeeps9
import Derived.Test.YtnkeijebkpjdgaaMLookKeeps10
import Derived.Test.YtnkeijebkpjdgaaMLookKeeps11
import Derived.Test.YtnkeijebkpjdgaaMLookKeeps12
import Derived.Test.YtnkeijebkpjdgaaMLookKeeps13
import Derived.Test.YtnkeijebkpjdgaaMLookKeeps14
import Derived.Test.YtnkeijebkpjdgaaMLookKeeps15
import Derived.Test.YtnkeijebkpjdgaaMLookKeeps16
import Derived.Test.YtnkeijebkpjdgaaMLookKeeps17
import Derived.Test.YtnkeijebkpjdgaaMLookKeeps18
import Derived.Test.YtnkeijebkpjdgaaMLookKeeps19
import Derived.Test.YtnkeijebkpjdgaaMLookKeeps20
import Derived.Test.YtnkeijebkpjdgaaMLookKeeps21
import Derived.Test.YtnkeijebkpjdgaaMLookKeeps22
import Derived.Test.YtnkeijebkpjdgaaMLookKeeps23
import Derived.Test.YtnkeijebkpjdgaaMLookKeeps24
import Derived.Test.YtnkeijebkpjdgaaMLookKeeps25
import Derived.Test.YtnkeijebkpjdgaaMLookKeeps26
import Derived.Test.YtnkeijebkpjdgaaMLookKeeps27
import Derived.Test.YtnkeijebkpjdgaaMLookKeeps28
import Derived.Test.YtnkeijebkpjdgaaMLookKeeps29
import Derived.WalkKit
import Derived.ProofKit
import Derived.OpenShut
import Derived.ShutString
import Derived.ChangeOld
import Derived.Below
import Derived.SizedLaws
namespace Go.Proofs.Ytnkeijebkpjdgaa.lookKeeps
open Go.ChangeShapes Go.WideShapes Go.ChangeAt Go.RowKit
open Go.ChangeMaps (open_string shut_string)
open Go.Proofs.Ytnkeijebkpjdgaa.Ab Go.Proofs.Ytnkeijebkpjdgaa.Hand
set_option linter.unusedVariables false
theorem own : ownKnob Try.prog.godebug = none := by kernel_rfl
theorem laidOut : laidOutB Try.prog = true := by kernel_rfl
set_option maxRecDepth 100000 in
theorem lifted (os : Os) (started : os.Started) (H : Type) (enc : TypeId × Value → H) :
    ReturnsInHanded {} Try.checked os 3 .any (Rows.lookKeepsSpec.pre6 enc Try.prog Try.f3 Rows.lookKeepsRow.domain false) (Rows.lookKeepsSpec.post enc Try.prog Try.f3 false true false false) := by
  refine returnsInHanded_of_change_sized (C := Try.checked) own started (by kernel_rfl) Try.func3
    (ChangeSpec.witness6 (enc := enc) (C := Try.checked) false ⟨#[], #[.agg #[.slice none 0 0, .int .u32 0, .int .u32 0, .int .u32 0, .slice none 0 0, .int .u32 0, .slice none 0 0, .string ByteArray.empty, .slice none 0 0, .string ByteArray.empty, .bool false, .int .u32 0, .bool false, .int .u32 0, .bool false, .int .u32 0, .bool false, .int .u64 0, .int .u32 0, .int .u32 0, .int .u32 0, .int .u32 0, .int .u32 0, .int .u32 0, .bool false, .int .u32 0, .int .u32 0, .int .u32 0, .int .u64 0, .int .u32 0, .int .u32 0, .int .u32 0, .slice none 0 0, .string ByteArray.empty, .int .u32 0, .int .u32 0, .int .u8 0, .int .u8 0, .int .u8 0, .int .u8 0, .int .u8 0, .int .u8 0, .int .u8 0, .int .u8 0, .int .u64 0, .int .u32 0, .int .u32 0, .int .u8 0, .int .u8 0, .int .u8 0, .int .u8 0, .int .u8 0, .int .u8 0, .int .u8 0, .int .u8 0]], []⟩ 8 (by kernel_rfl) (by kernel_rfl) (by kernel_rfl) (by kernel_rfl)) ?_
  intro W base args ds gs before hval0 hW hcnd hsz0 _
  have hsz : (DataW.weightsEach Try.prog (Try.f3.params.toList ++ Rows.lookKeepsSpec.plain.varTypes Try.prog) (ds ++ gs)).all (· ≤ reachBytes) = true := hsz0
  have hval : ∀ (j : Nat) t v, Try.f3.params[j]? = some t → args[j]? = some v → Value.okWide Try.prog W .any base t v := hval0
  have hW' := hW
  obtain ⟨p, q, hA0, hV, rfl, hfz, hnd⟩ := hW
  have hA : DataW.TrodAll enc Try.prog W 0 (fun _ => true) true Try.f3.params.toList args.toList ds p := hA0
  rw [Try.params3] at hA hval hsz
  obtain ⟨v0, vs0, d0, ds0, p0, q0, hargs, rfl, rfl, h0, r0⟩ := trodAll_cons hA
  obtain ⟨rfl, rfl, rfl⟩ := trodAll_nil r0
  obtain rfl : args = #[v0] := by cases args; simp_all
  obtain ⟨rfl, rfl⟩ := trodVars_none hV
  have k0 := h0
  have lt0 : ∀ x ∈ p0, x.block < W.heap.size := by obtain ⟨m, hm⟩ := k0; exact DataW.trod_lt m _ _ _ hm
  have hw0 : ∀ n ∈ d0.weights Try.prog 43, n ≤ reachBytes := by
    intro n hn
    have := List.all_eq_true.1 hsz n (DataW.weights_mem_each (j := 0) (t := 43) rfl rfl n hn)
    simpa using this
  obtain ⟨as0, hR0, hS0⟩ := open_struct (n := 12) (l := callTyL 144) Try.underlying43 (by kernel_rfl) (hval 0 43 v0 rfl rfl) h0 hw0
  clear hA0 hval0 hsz0 hsz
  obtain ⟨x0, e0, hx0⟩ := sh_call17 (B := 144) (by decide) hS0
  rw [e0] at hR0
  refine (law_true (from_ := 0) (keeps17_law 0 0 ⟨[], []⟩ x0 hx0) (.cons hR0 .nil)).mono fun e W' ⟨he, bel⟩ => ?_
  subst he
  exact ⟨_, rfl, _, _, _, [], _, [], hW', trodAll_mk1 (shut_bool Try.underlying4 _), (trodAll_cons_mk (Below.trod laidOut (by kernel_rfl) (of_decide_eq_true (by kernel_rfl)) k0 bel lt0) trodAll_mk0), rfl, bel.frame _, fun h => by cases h⟩
theorem over : Rows.lookKeepsRow.holds Try.pinned (OpenSpec.ofChange Rows.lookKeepsSpec) :=
  OpenClaim.holds_of_wide 3 Try.f3 rfl rfl rfl rfl rfl rfl rfl ⟨rfl, rfl, rfl, rfl, rfl⟩ rfl rfl rfl rfl rfl (by kernel_rfl) Try.func3 (by show joinedFacts Try.prog 3 Try.f3 Rows.lookKeepsSpec Rows.lookKeepsRow = true; unfold joinedFacts; rw [Hand.io_may, Hand.io_lf, Hand.io_make]; kernel_rfl)
    (of_decide_eq_true (by kernel_rfl)) (by unfold Func.isWrapper; first | (rw [if_pos (by decide +kernel)]; kernel_rfl) | (rw [if_neg (by decide +kernel)]; exact ⟨rfl, rfl⟩))
    (fun os started H enc _ => lifted os started H enc)
theorem proved : Rows.LookKeepsSaid := over
#print axioms proved
end Go.Proofs.Ytnkeijebkpjdgaa.lookKeeps
namespace Go.Proofs.Ytnkeijebkpjdgaa
/-- The row, under a short name, for the claim. -/
theorem lookKeeps_holds : Rows.LookKeepsSaid := lookKeeps.proved
end Go.Proofs.Ytnkeijebkpjdgaa
