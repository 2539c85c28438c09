/- Whoever was put is got. For any stamp, any machine, anybody. No condition. -/
import Derived.Test.YtncplnobmiljfaaG51
import Derived.Test.YtncplnobmiljfaaQ05b
namespace Go.Proofs.Ytncplnobmiljfaa.Pure
open Go.RowKit Go.Proofs.Ytncplnobmiljfaa.G5 Go.Proofs.Ytncplnobmiljfaa.GB Go.Proofs.Ytncplnobmiljfaa.GC Go.Proofs.Ytncplnobmiljfaa.Hand Go.Proofs.YtncplnobmiljfaaW.PrintWords Go.Proofs.YtncplnobmiljfaaW.PrintLast

theorem get_f {l : List Int} (h : byteOk l = true) : creds_Get.f l = some ((credG l).s, (credG l).m, (credG l).u, (credG l).g, (credG l).gs, (credG l).e) := by unfold creds_Get.f; rw [if_pos h]
theorem back_l0 (s : Int) (m : ByteArray) (u g : Int) (gs : List Int) (hs : 0 ≤ s ∧ s < 4294967296) (hu : 0 ≤ u ∧ u < 4294967296) (hg : 0 ≤ g ∧ g < 4294967296) (hgs : ∀ n ∈ gs, 0 ≤ n ∧ n < 4294967296) (hm : m.size ≤ 255) (hl : gs.length ≤ 16) (k : Nat) :
    ∀ (d i : Nat), (credB s m u g gs).length - i = d → i ≤ (credB s m u g gs).length →
    wharfingerlaw05_CredsBack.l0 (k + d) s m (credB s m u g gs) (i : Int) u g gs = wharfingerlaw05_CredsBack.l0 k s m (credB s m u g gs) ((credB s m u g gs).length : Int) u g gs
  | 0, i, h1, h2 => by rw [show i = (credB s m u g gs).length by omega]; rfl
  | d + 1, i, h1, h2 => by
    have h400 := credB_most s m u g gs hm hl
    rw [show k + (d + 1) = (k + d) + 1 by omega]
    conv => lhs; rw [wharfingerlaw05_CredsBack.l0]
    rw [if_pos (by omega), if_pos (by omega), if_pos (by omega), Int.toNat_natCast, get_f (byteOk_take (byteOk_credB s m u g gs) i), Option.bind_some]
    rw [if_pos (cred_cut s m u g gs i hs hu hg hgs hm hl (by omega)), wrap_in (by omega) (by omega), show ((i : Int) + 1) = ((i + 1 : Nat) : Int) by omega]
    exact back_l0 s m u g gs hs hu hg hgs hm hl k d (i + 1) (by omega) (by omega)
theorem CredsBack (s : Int) (m : ByteArray) (u g : Int) (gs : List Int) (hs : 0 ≤ s ∧ s < 4294967296) (hu : 0 ≤ u ∧ u < 4294967296) (hg : 0 ≤ g ∧ g < 4294967296) (hgs : ∀ n ∈ gs, 0 ≤ n ∧ n < 4294967296) (hmm : m.size ≤ 140737488351232) (hll : gs.length ≤ 140737488351232) : ∃ k, wharfingerlaw05_CredsBack.f k s m u g gs = some true := by
  obtain ⟨d, hd⟩ : ∃ d, (credB s m u g gs).length = d := ⟨_, rfl⟩
  refine ⟨100 + d + 1 + 1, ?_⟩
  unfold wharfingerlaw05_CredsBack.f
  rw [show 100 + d + 1 + 1 = (99 + d) + 3 by omega, beyond2 (99 + d) _ _ (by omega) (by omega) (by omega)]
  simp only [wharfingerlaw05_alive.f, Option.bind_some, if_true]
  by_cases hb : (m.size : Int) + (gs.length : Int) > 1048576
  · rw [decide_eq_true hb]
    simp only [wharfingerlaw05_CredsBack.j0, wharfingerlaw05_alive.f]; rfl
  · rw [decide_eq_false hb, show (99 + d) + 3 = (101 + d) + 1 by omega, wharfingerlaw05_CredsBack.j0, if_neg (by simp)]
    by_cases hok : m.size ≤ 255 ∧ gs.length ≤ 16
    · obtain ⟨hm, hl⟩ := hok
      have h400 := credB_most s m u g gs hm hl
      have hmod := credB_mod s m u g gs
      rw [show 101 + d = (100 + d) + 1 by omega, cPut_ok (100 + d) s m u g gs hm hl (by omega), Option.bind_some]
      dsimp only
      rw [if_pos rfl, show (100 + d) + 1 = 101 + d by omega]
      have h1 := back_l0 s m u g gs hs hu hg hgs hm hl 101 d 0 (by omega) (by omega)
      rw [show ((0 : Nat) : Int) = 0 from rfl] at h1
      have r1 := cred_read s m u g gs [] hs hu hg hgs hm hl
      have r2 := cred_read s m u g gs [0] hs hu hg hgs hm hl
      rw [List.append_nil, if_pos rfl] at r1
      rw [if_neg (by simp)] at r2
      rw [h1, show 101 = 100 + 1 from rfl, wharfingerlaw05_CredsBack.l0, if_neg (by omega), get_f (byteOk_credB s m u g gs), Option.bind_some, if_pos (by omega), get_f (byteOk_append (byteOk_credB s m u g gs) rfl), Option.bind_some, r1, r2]
      dsimp only
      rw [if_pos rfl, if_pos rfl, if_pos rfl, if_pos rfl, sameCred_self _ u g gs (by omega) (by omega), Option.bind_some, if_pos rfl, if_pos (by omega), decide_eq_true (by omega)]
    · rw [show 101 + d = (100 + d) + 1 by omega, cPut_no (100 + d) s m u g gs (by omega), Option.bind_some]
      dsimp only
      rw [if_neg (by omega), if_pos rfl, if_pos (show (([] : List Int).length : Int) = 0 from rfl)]
      by_cases hm : (m.size : Int) > 255
      · rw [if_pos hm]
      · rw [if_neg hm, decide_eq_true (by omega)]
end Go.Proofs.Ytncplnobmiljfaa.Pure
