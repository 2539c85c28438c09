/- Who is got of any bytes is put as these. For all bytes. No condition. -/
import Derived.Test.YtncplnobmiljfaaG51
import Derived.Test.YtncplnobmiljfaaQ05
namespace Go.Proofs.Ytncplnobmiljfaa.Pure
open Go.RowKit Go.Proofs.Ytncplnobmiljfaa.G5 Go.Proofs.Ytncplnobmiljfaa.GB Go.Proofs.Ytncplnobmiljfaa.GC Go.Proofs.Ytncplnobmiljfaa.Hand Go.Proofs.YtncplnobmiljfaaW.PrintWords Go.Proofs.YtncplnobmiljfaaW.PrintLast

theorem CredsAgain : wharfingerlaw05_CredsAgain.Pure := by
  intro l0 m0 s0 w0
  obtain ⟨K, hK⟩ : ∃ K, K = l0.length + 60 := ⟨_, rfl⟩
  refine ⟨K + 1 + 1, ?_⟩
  have hbo := byteOk_of_wf w0
  unfold wharfingerlaw05_CredsAgain.f
  rw [show K + 1 + 1 = K + 2 from rfl, beyond1 K _ (by omega) (by omega)]
  simp only [wharfingerlaw05_alive.f, Option.bind_some, if_true]
  by_cases hb : (l0.length : Int) > 1048576
  · rw [decide_eq_true hb]
    simp only [wharfingerlaw05_CredsAgain.j0, wharfingerlaw05_alive.f]; rfl
  · rw [decide_eq_false hb]
    simp only [wharfingerlaw05_CredsAgain.j0, Bool.false_eq_true, if_false]
    unfold creds_Get.f
    rw [if_pos hbo, Option.bind_some]
    rcases cred_again l0 hbo with ⟨e, he, hg⟩ | ⟨s, m, u, g, gs, hg, hl, hm, hgs⟩
    · rw [hg]
      dsimp only
      rw [if_neg he, if_pos rfl, if_pos (by rw [ByteArray.toList_eq]; rfl), if_pos rfl, if_pos rfl]
      rfl
    · rw [hg]
      dsimp only
      rw [if_pos rfl, show K + 1 = K + 1 from rfl, cPut_ok K s m u g gs hm hgs (by omega), Option.bind_some]
      dsimp only
      rw [if_pos rfl, ← hl, same_self _ _ (by omega) (by omega)]
      rfl
end Go.Proofs.Ytncplnobmiljfaa.Pure
