/- What is got of any bytes is put as these. For all bytes. No condition. -/
import Derived.Test.YtoalknneifpehaaG6CallsAgain1
import Derived.Test.YtoalknneifpehaaX06
namespace Go.Proofs.Ytoalknneifpehaa.Pure
open Go.RowKit Go.Proofs.Ytoalknneifpehaa.G6CallsAgain Go.Proofs.Ytoalknneifpehaa.GB Go.Proofs.Ytoalknneifpehaa.GC Go.Proofs.Ytoalknneifpehaa.Hand Go.Proofs.YtoalknneifpehaaW.PrintWords Go.Proofs.YtoalknneifpehaaW.PrintLast

theorem CallsAgain : wharfingerlaw06_CallsAgain.Pure := by
  intro l0 m0 s0 w0
  obtain ⟨K, hK⟩ : ∃ K, K = l0.length + 60 := ⟨_, rfl⟩
  refine ⟨K + 1, ?_⟩
  have hbo := byteOk_of_wf w0
  unfold wharfingerlaw06_CallsAgain.f
  simp only [wharfingerlaw06_alive.f, Option.bind_some, if_true]
  by_cases hb : (l0.length : Int) > 200000
  · rw [decide_eq_true hb]
    simp only [wharfingerlaw06_CallsAgain.j0, wharfingerlaw06_alive.f]; rfl
  · rw [decide_eq_false hb]
    simp only [wharfingerlaw06_CallsAgain.j0, Bool.false_eq_true, if_false]
    unfold calls_Get.f
    rw [if_pos hbo, Option.bind_some]
    rcases cget_cases hbo with ⟨e, hg, he⟩ | ⟨x, p, v, o, f, m, s, u, g, gs, b, hg, hok, hl, _, hm⟩
    · rw [hg]
      dsimp only [callZ]
      have he0 : ¬ e = 0 := by rcases he with h | h | h <;> omega
      refine (if_neg he0).trans ((if_pos rfl).trans ((if_pos rfl).trans ((if_pos rfl).trans ?_)))
      rcases he with rfl | rfl | rfl <;> rfl
    · rw [hg]
      dsimp only
      rw [if_pos rfl, cput_ok hok b (by rw [← hl]; exact hm), Option.bind_some]
      dsimp only
      rw [if_pos rfl, ← hl, same_self _ _ (by omega) (by omega), Option.bind_some, if_pos rfl, decide_eq_true (by rcases hok.hf with hf | hf <;> omega)]
end Go.Proofs.Ytoalknneifpehaa.Pure
