import Derived.Test.YtnkeijebkpjdgaaRows
import Derived.Test.YtnkeijebkpjdgaaInit
import Derived.Test.YtnkeijebkpjdgaaMLookReads1
import Derived.Test.YtnkeijebkpjdgaaMLookReads2
import Derived.Test.YtnkeijebkpjdgaaMLookReads3
import Derived.Test.YtnkeijebkpjdgaaMLookReads4
import Derived.Test.YtnkeijebkpjdgaaMLookReads5
import Derived.Test.YtnkeijebkpjdgaaMLookReads6
import Derived.Test.YtnkeijebkpjdgaaMLookReads7
import Derived.Test.YtnkeijebkpjdgaaMLookReads8
import Derived.Test.YtnkeijebkpjdgaaMLookReads9
import Derived.Test.YtnkeijebkpjdgaaMLookReads10
import Derived.Test.YtnkeijebkpjdgaaMLookReads11
import Derived.Test.YtnkeijebkpjdgaaMLookReads12
import Derived.Test.YtnkeijebkpjdgaaMLookReads13
import Derived.Test.YtnkeijebkpjdgaaMLookReads14
import Derived.Test.YtnkeijebkpjdgaaMLookReads15
import Derived.Test.YtnkeijebkpjdgaaMLookReads16
import Derived.Test.YtnkeijebkpjdgaaMLookReads17
import Derived.Test.YtnkeijebkpjdgaaMLookReads18
import Derived.Test.YtnkeijebkpjdgaaMLookReads19
import Derived.Test.YtnkeijebkpjdgaaMLookReads20
import Derived.Test.YtnkeijebkpjdgaaMLookReads21
import Derived.Test.YtnkeijebkpjdgaaMLookReads22
import Derived.Test.YtnkeijebkpjdgaaMLookReads23
import Derived.Test.YtnkeijebkpjdgaaMLookReads24
import Derived.WalkKit
import Derived.ProofKit
import Derived.OpenShut
import Derived.ShutString
import Derived.ChangeOld
import Derived.Below
import Derived.SizedLaws
namespace Go.Proofs.Ytnkeijebkpjdgaa.lookReads
open Go.ChangeShapes Go.WideShapes Go.ChangeAt Go.RowKit
open Go.ChangeMaps (open_string shut_string)
open Go.Proofs.Ytnkeijebkpjdgaa.Ab Go.Proofs.Ytnkeijebkpjdgaa.Hand
set_option linter.unusedVariables false
theorem own : ownKnob Try.prog.godebug = none := by kernel_rfl
theorem laidOut : laidOutB Try.prog = true := by kernel_rfl
set_option maxRecDepth 100000 in
theorem lifted (os : Os) (started : os.Started) (H : Type) (enc : TypeId × Value → H) :
    ReturnsInHanded {} Try.checked os 4 .any (Rows.lookReadsSpec.pre6 enc Try.prog Try.f4 Rows.lookReadsRow.domain false) (Rows.lookReadsSpec.post enc Try.prog Try.f4 false true false false) := by
  refine returnsInHanded_of_change_sized (C := Try.checked) own started (by kernel_rfl) Try.func4
    (ChangeSpec.witness6 (enc := enc) (C := Try.checked) false ⟨#[], #[.string ByteArray.empty, .slice none 0 0], []⟩ 8 (by kernel_rfl) (by kernel_rfl) (by kernel_rfl) (by kernel_rfl)) ?_
  intro W base args ds gs before hval0 hW hcnd hsz0 _
  have hsz : (DataW.weightsEach Try.prog (Try.f4.params.toList ++ Rows.lookReadsSpec.plain.varTypes Try.prog) (ds ++ gs)).all (· ≤ reachBytes) = true := hsz0
  have hval : ∀ (j : Nat) t v, Try.f4.params[j]? = some t → args[j]? = some v → Value.okWide Try.prog W .any base t v := hval0
  have hW' := hW
  obtain ⟨p, q, hA0, hV, rfl, hfz, hnd⟩ := hW
  have hA : DataW.TrodAll enc Try.prog W 0 (fun _ => true) true Try.f4.params.toList args.toList ds p := hA0
  rw [Try.params4] at hA hval hsz
  obtain ⟨v0, vs0, d0, ds0, p0, q0, hargs, rfl, rfl, h0, r0⟩ := trodAll_cons hA
  obtain ⟨v1, vs1, d1, ds1, p1, q1, rfl, rfl, rfl, h1, r1⟩ := trodAll_cons r0
  obtain ⟨rfl, rfl, rfl⟩ := trodAll_nil r1
  obtain rfl : args = #[v0, v1] := by cases args; simp_all
  obtain ⟨rfl, rfl⟩ := trodVars_none hV
  obtain ⟨a0, rfl, rfl, rfl, y0⟩ := open_string Try.underlying9 (hval 0 9 v0 rfl rfl) h0
  have w0 : a0.size ≤ 140737488351232 := by
    have z := sized_string hsz (j := 0) (t := 9) rfl rfl
    rw [Array.length_toList] at z
    exact z
  have k1 := h1
  have lt1 : ∀ x ∈ p1, x.block < W.heap.size := by obtain ⟨m, hm⟩ := k1; exact DataW.trod_lt m _ _ _ hm
  have hw1 : ∀ n ∈ d1.weights Try.prog 30, n ≤ reachBytes := by
    intro n hn
    have := List.all_eq_true.1 hsz n (DataW.weights_mem_each (j := 1) (t := 30) rfl rfl n hn)
    simpa using this
  obtain ⟨x1, hR1, hS1⟩ := open_row (n := 12) (B := 1) (te := .int .u8) Try.underlying30 (by kernel_rfl) (hval 1 30 v1 rfl rfl) h1 hw1
  clear hA0 hval0 hsz0 hsz
  obtain ⟨l1, hr1, hb1, hl1⟩ := sh_row hS1
  refine (law_true (from_ := 0) (reads17_law 0 0 ⟨[], []⟩ a0.data.toList x1 l1 hr1 (fun b hb => wf_u8 (hb1 b hb))) (.cons (.str _) (.cons hR1 .nil))).mono fun e W' ⟨he, bel⟩ => ?_
  subst he
  exact ⟨_, rfl, _, _, _, [], _, [], hW', trodAll_mk1 (shut_bool Try.underlying4 _), (trodAll_cons_mk (shut_string Try.underlying9 y0) (trodAll_cons_mk (Below.trod laidOut (by kernel_rfl) (of_decide_eq_true (by kernel_rfl)) k1 bel lt1) trodAll_mk0)), rfl, bel.frame _, fun h => by cases h⟩
theorem over : Rows.lookReadsRow.holds Try.pinned (OpenSpec.ofChange Rows.lookReadsSpec) :=
  OpenClaim.holds_of_wide 4 Try.f4 rfl rfl rfl rfl rfl rfl rfl ⟨rfl, rfl, rfl, rfl, rfl⟩ rfl rfl rfl rfl rfl (by kernel_rfl) Try.func4 (by show joinedFacts Try.prog 4 Try.f4 Rows.lookReadsSpec Rows.lookReadsRow = true; unfold joinedFacts; rw [Hand.io_may, Hand.io_lf, Hand.io_make]; kernel_rfl)
    (of_decide_eq_true (by kernel_rfl)) (by unfold Func.isWrapper; first | (rw [if_pos (by decide +kernel)]; kernel_rfl) | (rw [if_neg (by decide +kernel)]; exact ⟨rfl, rfl⟩))
    (fun os started H enc _ => lifted os started H enc)
theorem proved : Rows.LookReadsSaid := over
#print axioms proved
end Go.Proofs.Ytnkeijebkpjdgaa.lookReads
namespace Go.Proofs.Ytnkeijebkpjdgaa
/-- The row, under a short name, for the claim. -/
theorem lookReads_holds : Rows.LookReadsSaid := lookReads.proved
end Go.Proofs.Ytnkeijebkpjdgaa
