import Derived.Test.YtoalknneifpehaaA06
namespace Go.Proofs.Ytoalknneifpehaa.Hand
open Go.RowKit Go.Proofs.Ytoalknneifpehaa.GB Go.Proofs.Ytoalknneifpehaa.GC Go.Proofs.Ytoalknneifpehaa.G6S Go.Proofs.YtoalknneifpehaaW.PrintWords Go.Proofs.YtoalknneifpehaaW.PrintLast
set_option linter.unusedVariables false
set_option linter.unusedSimpArgs false
/-- The parts of a call that came. -/
structure CallA (x p v o f : Int) (m : ByteArray) (s u g : Int) (gs b : List Int) : Prop where
  hx : R32 x
  hp : R32 p
  hv : R32 v
  ho : R32 o
  hf : R32 f
  hs : R32 s
  hu : R32 u
  hg : R32 g
  hgs : ∀ n ∈ gs, R32 n
  hm : m.size ≤ 140737488351232
  hl : gs.length ≤ 140737488351232
  hb : b.length ≤ 140737488351232
theorem CallA.cases {x p v o f : Int} {m : ByteArray} {s u g : Int} {gs b : List Int} (h : CallA x p v o f m s u g gs b) :
    (calls_Put.f x p v o f m s u g gs b = some ([], 1) ∧ ¬ CallOk x p v o f m s u g gs) ∨ (calls_Put.f x p v o f m s u g gs b = some ([], 3) ∧ CallOk x p v o f m s u g gs ∧ 65536 < (callB x p v o f m s u g gs ++ b).length) ∨
    (calls_Put.f x p v o f m s u g gs b = some (callB x p v o f m s u g gs ++ b, 0) ∧ CallOk x p v o f m s u g gs ∧ (callB x p v o f m s u g gs ++ b).length ≤ 65536) :=
  cput_cases h.hx h.hp h.hv h.ho h.hf h.hs h.hu h.hg h.hgs h.hm h.hl h.hb
theorem great_f (x p v o f : Int) (m : ByteArray) (s u g : Int) (gs b : List Int) :
    ∃ q, wharfingerlaw06_great.f x p v o f m s u g gs b = some q ∧ (q = false → m.size ≤ 5000 ∧ gs.length ≤ 1000 ∧ b.length ≤ 200000) := by
  unfold wharfingerlaw06_great.f
  by_cases h1 : (m.size : Int) > 5000
  · exact ⟨true, by rw [if_pos h1], fun h => by cases h⟩
  · by_cases h2 : (gs.length : Int) > 1000
    · exact ⟨true, by rw [if_neg h1, if_pos h2], fun h => by cases h⟩
    · refine ⟨_, by rw [if_neg h1, if_neg h2], fun h => ?_⟩
      have h3 := of_decide_eq_false h
      omega
theorem callB_most {x p v o f : Int} {m : ByteArray} {s u g : Int} {gs : List Int} (h : CallOk x p v o f m s u g gs) : 40 ≤ (callB x p v o f m s u g gs).length ∧ (callB x p v o f m s u g gs).length ≤ 450 := by
  have h1 := whoL_most (f := f) (m := m) (s := s) (u := u) (g := g) (gs := gs) h.f1
  have h2 := putL_length (whoL f m s u g gs)
  have h3 := padI_small (whoL f m s u g gs).length
  rw [callB_length]; omega
end Go.Proofs.Ytoalknneifpehaa.Hand
