/- What is got of any bytes as a text is put as those that it had. For all bytes and any bound. No condition. -/
import Derived.Test.YtncplnobmiljfaaG31
import Derived.Test.YtncplnobmiljfaaQ03
namespace Go.Proofs.Ytncplnobmiljfaa.Pure
open Go.RowKit Go.Proofs.Ytncplnobmiljfaa.G3 Go.Proofs.Ytncplnobmiljfaa.GB Go.Proofs.Ytncplnobmiljfaa.Hand Go.Proofs.YtncplnobmiljfaaW.PrintWords Go.Proofs.YtncplnobmiljfaaW.PrintLast

theorem StringsAgain : wharfingerlaw03_StringsAgain.Pure := by
  intro l0 a1 m0 s0 w0 wa
  obtain ⟨K, hK⟩ : ∃ K, K = l0.length + 20 := ⟨_, rfl⟩
  refine ⟨K + 1 + 1, ?_⟩
  have ha := wf_u32 wa
  have hbo := byteOk_of_wf w0
  unfold wharfingerlaw03_StringsAgain.f
  rw [show K + 1 + 1 = K + 2 from rfl, beyond1 K _ (by omega) (by omega)]
  simp only [wharfingerlaw03_alive.f, Option.bind_some, if_true]
  by_cases hb : (l0.length : Int) > 1048576
  · rw [decide_eq_true hb]
    simp only [wharfingerlaw03_StringsAgain.j0, wharfingerlaw03_alive.f]; rfl
  · rw [decide_eq_false hb]
    simp only [wharfingerlaw03_StringsAgain.j0, Bool.false_eq_true, if_false]
    rw [wrap_in (x := a1) (by omega) (by omega)]
    unfold strings_Get.f
    rcases get_again l0 a1 hbo with ⟨e, he, hg⟩ | ⟨xs, n, hg, hn, hx, hp, hbx, hlx⟩
    · rw [hg]
      simp only [Option.map_some, Option.bind_some]
      rw [if_neg he, if_pos (by rw [ByteArray.toList_eq]; rfl)]
      rfl
    · rw [hg]
      simp only [Option.map_some, Option.bind_some]
      rw [if_pos trivial, if_pos (by omega), strOfNums_size, if_pos (by omega), sput_f _ (by rw [strOfNums_size]; omega), bytesOf_str xs hbx, Option.bind_some, if_pos (by omega), Int.toNat_natCast, hp, same_self _ _ (by rw [List.length_take]; omega) (by rw [List.length_take]; omega)]
      rfl

end Go.Proofs.Ytncplnobmiljfaa.Pure
