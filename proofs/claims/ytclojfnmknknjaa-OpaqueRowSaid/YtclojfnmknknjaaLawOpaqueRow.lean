import Derived.Test.YtclojfnmknknjaaRows
import Derived.Test.YtclojfnmknknjaaPureOpaqueRow
import Derived.Test.YtclojfnmknknjaaOpen
import Derived.WalkKit
import Derived.ProofKit
import Derived.OpenShut
import Derived.ShutString
import Derived.ChangeOld
import Derived.Below
import Derived.SizedLaws
namespace Go.Proofs.Ytclojfnmknknjaa.opaqueRow
open Go.ChangeShapes Go.WideShapes Go.ChangeAt Go.RowKit
open Go.Proofs.Ytclojfnmknknjaa.Hand Go.Proofs.YtclojfnmknknjaaW.PrintWords
set_option linter.unusedVariables false
theorem own : ownKnob Try.prog.godebug = none := by kernel_rfl
theorem laidOut : laidOutB Try.prog = true := by kernel_rfl
set_option maxRecDepth 100000 in
theorem lifted (os : Os) (started : os.Started) (H : Type) (enc : TypeId × Value → H) :
    ReturnsInHanded {} Try.checked os 7 .any (Rows.opaqueRowSpec.pre6 enc Try.prog Try.f7 Rows.opaqueRowRow.domain false) (Rows.opaqueRowSpec.post enc Try.prog Try.f7 false true false false) := by
  refine returnsInHanded_of_change_sized (C := Try.checked) own started (by kernel_rfl) Try.func7
    (ChangeSpec.witness6 (enc := enc) (C := Try.checked) false ⟨#[], #[.slice none 0 0], []⟩ 8 (by kernel_rfl) (by kernel_rfl) (by kernel_rfl) (by kernel_rfl)) ?_
  intro W base args ds gs before hval0 hW hcnd hsz0 _
  have hsz : (DataW.weightsEach Try.prog (Try.f7.params.toList ++ Rows.opaqueRowSpec.plain.varTypes Try.prog) (ds ++ gs)).all (· ≤ reachBytes) = true := hsz0
  have hval : ∀ (j : Nat) t v, Try.f7.params[j]? = some t → args[j]? = some v → Value.okWide Try.prog W .any base t v := hval0
  have hW' := hW
  obtain ⟨p, q, hA0, hV, rfl, hfz, hnd⟩ := hW
  have hA : DataW.TrodAll enc Try.prog W 0 (fun _ => true) true Try.f7.params.toList args.toList ds p := hA0
  rw [Try.params7] at hA hval hsz
  obtain ⟨v0, vs0, d0, ds0, p0, q0, hargs, rfl, rfl, h0, r0⟩ := trodAll_cons hA
  obtain ⟨rfl, rfl, rfl⟩ := trodAll_nil r0
  obtain rfl : args = #[v0] := by cases args; simp_all
  obtain ⟨rfl, rfl⟩ := trodVars_none hV
  obtain ⟨a0, len0, cap0, rfl⟩ := okWide_slice Try.underlying36 (hval 0 36 v0 rfl rfl)
  have k0 := h0
  have lt0 : ∀ x ∈ p0, x.block < W.heap.size := by obtain ⟨m, hm⟩ := k0; exact DataW.trod_lt m _ _ _ hm
  have hw0 : ∀ n ∈ d0.weights Try.prog 36, n ≤ reachBytes := by
    intro n hn
    have := List.all_eq_true.1 hsz n (DataW.weights_mem_each (j := 0) (t := 36) rfl rfl n hn)
    simpa using this
  have op : Opens Try.prog 36 (Kd.slice 22 (Kd.slice 5 (Kd.int .u8))) _ :=
    opens_slice Try.underlying36 (by kernel_rfl) rfl (opens_slice Try.underlying22 (by kernel_rfl) rfl (opens_int Try.underlying5))
  obtain ⟨xss, ⟨A, c, hcs, hc, hC⟩, hm, hs, hok⟩ : ∃ xss : List (List Int), (∃ A c, (Value.slice a0 len0 cap0).cells.toList = [.slice A xss.length c] ∧ xss.length ≤ c ∧ (Kd.slice 5 (Kd.int .u8)).C W A xss.length xss) ∧ xss.length ≤ 9223372036854775807 ∧ xss.length * Try.prog.bytesOf 22 ≤ 140737488351232 ∧ ∀ xs ∈ xss, (xs.length ≤ 9223372036854775807 ∧ xs.length * Try.prog.bytesOf 5 ≤ 140737488351232 ∧ ∀ x ∈ xs, (Lit.int .u8 x).wf = true) := by
    obtain ⟨fuel, hf⟩ := h0
    obtain ⟨xss, hK, hm, hs, hok⟩ := op H enc W 0 true fuel _ _ hf hw0
    exact ⟨xss, hK, hm, hs, hok⟩
  simp only [Value.cells, List.cons.injEq, and_true] at hcs
  injection hcs with e1 e2 e3
  subst e1 e2 e3
  rw [show Try.prog.bytesOf 5 = 1 by kernel_rfl] at hok
  clear hA0 hval0 hsz0 hsz
  obtain ⟨k, hk⟩ := Pure.OpaqueRow xss hm (fun xs hx => ⟨by have := (hok xs hx).2.1; omega, (hok xs hx).2.2⟩)
  refine (G.wharfingerlaw02_OpaqueRow.calls k a0 cap0 xss true W hC hc hk).mono fun e W' ⟨he, bel⟩ => ?_
  subst he
  exact ⟨_, rfl, _, _, _, [], _, [], hW', trodAll_mk1 (shut_bool Try.underlying4 _), (trodAll_cons_mk (Below.trod laidOut (by kernel_rfl) (of_decide_eq_true (by kernel_rfl)) k0 bel lt0) trodAll_mk0), rfl, bel.frame _, fun h => by cases h⟩
theorem over : Rows.opaqueRowRow.holds Try.pinned (OpenSpec.ofChange Rows.opaqueRowSpec) :=
  OpenClaim.holds_of_wide 7 Try.f7 rfl rfl rfl rfl rfl rfl rfl ⟨rfl, rfl, rfl, rfl, rfl⟩ rfl rfl rfl rfl rfl (by kernel_rfl) Try.func7 (by kernel_rfl)
    (of_decide_eq_true (by kernel_rfl)) (by unfold Func.isWrapper; first | (rw [if_pos (by decide +kernel)]; kernel_rfl) | (rw [if_neg (by decide +kernel)]; exact ⟨rfl, rfl⟩))
    (fun os started H enc _ => lifted os started H enc)
theorem proved : Rows.OpaqueRowSaid := over
#print axioms proved
end Go.Proofs.Ytclojfnmknknjaa.opaqueRow
namespace Go.Proofs.Ytclojfnmknknjaa
/-- The row, under a short name, for the claim. -/
theorem opaqueRow_holds : Rows.OpaqueRowSaid := opaqueRow.proved
end Go.Proofs.Ytclojfnmknknjaa
