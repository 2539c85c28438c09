import Derived.Test.YtoalknneifpehaaOpenX
namespace Go.Proofs.Ytoalknneifpehaa.Hand
open Go.RowKit Go.Proofs.YtoalknneifpehaaW.PrintWords
set_option linter.unusedVariables false
set_option linter.unusedSimpArgs false

set_option maxRecDepth 100000 in
/-- Whatever reads as another number. -/
theorem open_other {H : Type} {enc : TypeId × Value → H} {W : World} {b0 : Nat} {v : Value} {d : DataW H} {p : List MemPlace} (hv : Value.okWide Try.prog W .any b0 45 v)
    (h : DataW.Trod enc Try.prog W 0 (fun _ => true) true 45 v d p) (hw : ∀ n ∈ d.weights Try.prog 45, n ≤ reachBytes) :
    ∃ (u g : Int) (A : Option Addr) (c : Nat) (gs : List Int), v = .agg #[.int .u8 u, .int .u32 g, .slice A gs.length c] ∧ (Lit.int .u8 u).wf = true ∧ (Lit.int .u32 g).wf = true ∧ gs.length ≤ c ∧ Kd.C (Kd.int .u8) W A gs.length gs ∧ (∀ n ∈ gs, (Lit.int .u8 n).wf = true) ∧ gs.length ≤ 140737488351232 := by
  obtain ⟨v0, v1, v2, y0, y1, y2, n, rfl, rfl, rfl, h0, h1, h2⟩ := Go.Joins.open_agg3 Try.underlying45 (by kernel_rfl) (by kernel_rfl) hv h
  obtain ⟨u, hu, hu1⟩ := opens_int (P := Try.prog) (t := 5) Try.underlying5 H enc W 0 true n _ _ h0 (fun q hq => hw q (by
    simp only [DataW.weights, Try.underlying45]
    simp only [List.map_toArray, List.map_cons, List.map_nil, DataW.weightsEach, List.mem_append]
    exact .inl hq))
  obtain ⟨g, hg, hg1⟩ := opens_int (P := Try.prog) (t := 22) Try.underlying22 H enc W 0 true n _ _ h1 (fun q hq => hw q (by
    simp only [DataW.weights, Try.underlying45]
    simp only [List.map_toArray, List.map_cons, List.map_nil, DataW.weightsEach, List.mem_append]
    exact .inr (.inl hq)))
  obtain ⟨gs, ⟨A, c, hcs, hc, hC⟩, hm, hs, hok⟩ := opens_slice (P := Try.prog) (t := 26) Try.underlying26 (d := Kd.int .u8) (by kernel_rfl) rfl (opens_int (P := Try.prog) (t := 5) Try.underlying5) H enc W 0 true n _ _ h2 (fun q hq => hw q (by
    simp only [DataW.weights, Try.underlying45]
    simp only [List.map_toArray, List.map_cons, List.map_nil, DataW.weightsEach, List.mem_append]
    exact .inr (.inr (.inl hq))))
  have e0 : v0 = .int .u8 u := by have := (show [v0] = [Value.int .u8 u] from hu); simpa using this
  have e1 : v1 = .int .u32 g := by have := (show [v1] = [Value.int .u32 g] from hg); simpa using this
  have e2 : v2 = .slice A gs.length c := by simpa using hcs
  subst e0 e1 e2
  rw [show Try.prog.bytesOf 5 = 1 by kernel_rfl] at hs
  exact ⟨u, g, A, c, gs, rfl, hu1, hg1, hc, hC, hok, by omega⟩
end Go.Proofs.Ytoalknneifpehaa.Hand
