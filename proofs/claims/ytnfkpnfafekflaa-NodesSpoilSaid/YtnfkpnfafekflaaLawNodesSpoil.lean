import Derived.Test.YtnfkpnfafekflaaRows
import Derived.Test.YtnfkpnfafekflaaInit
import Derived.Test.YtnfkpnfafekflaaMNodesSpoil1
import Derived.Test.YtnfkpnfafekflaaMNodesSpoil2
import Derived.Test.YtnfkpnfafekflaaMNodesSpoil3
import Derived.Test.YtnfkpnfafekflaaMNodesSpoil4
import Derived.Test.YtnfkpnfafekflaaMNodesSpoil5
import Derived.Test.YtnfkpnfafekflaaMNodesSpoil6
import Derived.Test.YtnfkpnfafekflaaMNodesSpoil7
import Derived.Test.YtnfkpnfafekflaaMNodesSpoil8
import Derived.Test.YtnfkpnfafekflaaMNodesSpoil9
import Derived.Test.YtnfkpnfafekflaaMNodesSpoil10
import Derived.Test.YtnfkpnfafekflaaMNodesSpoil11
import Derived.Test.YtnfkpnfafekflaaMNodesSpoil12
import Derived.Test.YtnfkpnfafekflaaMNodesSpoil13
import Derived.Test.YtnfkpnfafekflaaMNodesSpoil14
import Derived.WalkKit
import Derived.ProofKit
import Derived.OpenShut
import Derived.ShutString
import Derived.ChangeOld
import Derived.Below
import Derived.SizedLaws
namespace Go.Proofs.Ytnfkpnfafekflaa.nodesSpoil
open Go.ChangeShapes Go.WideShapes Go.ChangeAt Go.RowKit
open Go.ChangeMaps (open_string shut_string)
open Go.Proofs.Ytnfkpnfafekflaa.Ab Go.Proofs.Ytnfkpnfafekflaa.Hand 
set_option linter.unusedVariables false
theorem own : ownKnob Try.prog.godebug = none := by kernel_rfl
theorem laidOut : laidOutB Try.prog = true := by kernel_rfl
set_option maxRecDepth 100000 in
theorem lifted (os : Os) (started : os.Started) (H : Type) (enc : TypeId × Value → H) :
    ReturnsInHanded {} Try.checked os 4 .any (Rows.nodesSpoilSpec.pre6 enc Try.prog Try.f4 Rows.nodesSpoilRow.domain false) (Rows.nodesSpoilSpec.post enc Try.prog Try.f4 false true false false) := by
  refine returnsInHanded_of_change_sized (C := Try.checked) own started (by kernel_rfl) Try.func4
    (ChangeSpec.witness6 (enc := enc) (C := Try.checked) false ⟨#[], #[.agg #[.slice none 0 0, .int .u32 0], .int .u16 0, .int .u8 0], []⟩ 8 (by kernel_rfl) (by kernel_rfl) (by kernel_rfl) (by kernel_rfl)) ?_
  intro W base args ds gs before hval0 hW hcnd hsz0 _
  have hsz : (DataW.weightsEach Try.prog (Try.f4.params.toList ++ Rows.nodesSpoilSpec.plain.varTypes Try.prog) (ds ++ gs)).all (· ≤ reachBytes) = true := hsz0
  have hval : ∀ (j : Nat) t v, Try.f4.params[j]? = some t → args[j]? = some v → Value.okWide Try.prog W .any base t v := hval0
  have hW' := hW
  obtain ⟨p, q, hA0, hV, rfl, hfz, hnd⟩ := hW
  have hA : DataW.TrodAll enc Try.prog W 0 (fun _ => true) true Try.f4.params.toList args.toList ds p := hA0
  rw [Try.params4] at hA hval hsz
  obtain ⟨v0, vs0, d0, ds0, p0, q0, hargs, rfl, rfl, h0, r0⟩ := trodAll_cons hA
  obtain ⟨v1, vs1, d1, ds1, p1, q1, rfl, rfl, rfl, h1, r1⟩ := trodAll_cons r0
  obtain ⟨v2, vs2, d2, ds2, p2, q2, rfl, rfl, rfl, h2, r2⟩ := trodAll_cons r1
  obtain ⟨rfl, rfl, rfl⟩ := trodAll_nil r2
  obtain rfl : args = #[v0, v1, v2] := by cases args; simp_all
  obtain ⟨rfl, rfl⟩ := trodVars_none hV
  have k0 := h0
  have lt0 : ∀ x ∈ p0, x.block < W.heap.size := by obtain ⟨m, hm⟩ := k0; exact DataW.trod_lt m _ _ _ hm
  have hw0 : ∀ n ∈ d0.weights Try.prog 25, n ≤ reachBytes := by
    intro n hn
    have := List.all_eq_true.1 hsz n (DataW.weights_mem_each (j := 0) (t := 25) rfl rfl n hn)
    simpa using this
  obtain ⟨as0, hR0, hS0⟩ := open_struct (n := 12) (l := treeTyL 144) Try.underlying25 (by kernel_rfl) (hval 0 25 v0 rfl rfl) h0 hw0
  obtain ⟨a1, rfl, rfl, rfl, w1⟩ := open_int Try.underlying52 (hval 1 52 v1 rfl rfl) h1
  obtain ⟨a2, rfl, rfl, rfl, w2⟩ := open_int Try.underlying5 (hval 2 5 v2 rfl rfl) h2
  clear hA0 hval0 hsz0 hsz
  obtain ⟨x0, e0, hx0⟩ := sh_tree (B := 144) (by decide) hS0
  rw [e0] at hR0
  refine (law_true (from_ := 0) (spoil_law 0 0 ⟨[], []⟩ x0 hx0 a1 a2 (wf_u16 w1).1 (wf_u16 w1).2) (.cons hR0 (.cons (.int _ _) (.cons (.int _ _) .nil)))).mono fun e W' ⟨he, bel⟩ => ?_
  subst he
  exact ⟨_, rfl, _, _, _, [], _, [], hW', trodAll_mk1 (shut_bool Try.underlying4 _), (trodAll_cons_mk (Below.trod laidOut (by kernel_rfl) (of_decide_eq_true (by kernel_rfl)) k0 bel lt0) (trodAll_cons_mk (shut_int Try.underlying52 w1) (trodAll_cons_mk (shut_int Try.underlying5 w2) trodAll_mk0))), rfl, bel.frame _, fun h => by cases h⟩
theorem over : Rows.nodesSpoilRow.holds Try.pinned (OpenSpec.ofChange Rows.nodesSpoilSpec) :=
  OpenClaim.holds_of_wide 4 Try.f4 rfl rfl rfl rfl rfl rfl rfl ⟨rfl, rfl, rfl, rfl, rfl⟩ rfl rfl rfl rfl rfl (by kernel_rfl) Try.func4 (by show joinedFacts Try.prog 4 Try.f4 Rows.nodesSpoilSpec Rows.nodesSpoilRow = true; unfold joinedFacts; rw [Hand.io_may, Hand.io_lf, Hand.io_make]; kernel_rfl)
    (of_decide_eq_true (by kernel_rfl)) (by unfold Func.isWrapper; first | (rw [if_pos (by decide +kernel)]; kernel_rfl) | (rw [if_neg (by decide +kernel)]; exact ⟨rfl, rfl⟩))
    (fun os started H enc _ => lifted os started H enc)
theorem proved : Rows.NodesSpoilSaid := over
#print axioms proved
end Go.Proofs.Ytnfkpnfafekflaa.nodesSpoil
namespace Go.Proofs.Ytnfkpnfafekflaa
/-- The row, under a short name, for the claim. -/
theorem nodesSpoil_holds : Rows.NodesSpoilSaid := nodesSpoil.proved
end Go.Proofs.Ytnfkpnfafekflaa
