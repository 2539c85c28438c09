/- The bytes of one who calls are those of its parts. For any stamp, any machine, anybody. No condition. -/
import Derived.Test.YtncplnobmiljfaaG5P1
import Derived.Test.YtncplnobmiljfaaQ05b
namespace Go.Proofs.Ytncplnobmiljfaa.Pure
open Go.RowKit Go.Proofs.Ytncplnobmiljfaa.G5P Go.Proofs.Ytncplnobmiljfaa.GB Go.Proofs.Ytncplnobmiljfaa.GC Go.Proofs.Ytncplnobmiljfaa.Hand Go.Proofs.YtncplnobmiljfaaW.PrintWords Go.Proofs.YtncplnobmiljfaaW.PrintLast

theorem parts_l0 (b : List Int) (u g : Int) (gs : List Int) (hl : gs.length ≤ 16) (k : Nat) :
    ∀ (d i : Nat) (acc : List Int), gs.length - i = d → i ≤ gs.length → acc.length + 4 * d ≤ 10000 →
    wharfingerlaw05_CredsParts.l0 (k + d) b acc (i : Int) u g gs = wharfingerlaw05_CredsParts.l0 k b (acc ++ numsL (gs.drop i)) (gs.length : Int) u g gs
  | 0, i, acc, h1, h2, h3 => by
    obtain rfl : i = gs.length := by omega
    simp [numsL]
  | d + 1, i, acc, h1, h2, h3 => by
    have hi : i < gs.length := by omega
    rw [show k + (d + 1) = (k + d) + 1 by omega]
    conv => lhs; rw [wharfingerlaw05_CredsParts.l0]
    rw [if_pos (by omega), if_pos (by omega), rd_nat gs i hi, show words_Put.f gs[i] = some (beL gs[i] 4) from rfl, Option.bind_some, if_pos (by rw [beL_length]; omega), wrap_in (by omega) (by omega), show ((i : Int) + 1) = ((i + 1 : Nat) : Int) by omega]
    rw [parts_l0 b u g gs hl k d (i + 1) _ (by omega) (by omega) (by rw [List.length_append, beL_length]; omega)]
    rw [List.drop_eq_getElem_cons hi, numsL, List.append_assoc]
theorem CredsParts (s : Int) (m : ByteArray) (u g : Int) (gs : List Int) (hmm : m.size ≤ 140737488351232) (hll : gs.length ≤ 140737488351232) : ∃ k, wharfingerlaw05_CredsParts.f k s m u g gs = some true := by
  obtain ⟨d, hd⟩ : ∃ d, gs.length = d := ⟨_, rfl⟩
  refine ⟨700 + d + 1 + 1, ?_⟩
  unfold wharfingerlaw05_CredsParts.f
  rw [show 700 + d + 1 + 1 = (699 + d) + 3 by omega, beyond2 (699 + d) _ _ (by omega) (by omega) (by omega)]
  simp only [wharfingerlaw05_alive.f, Option.bind_some, if_true]
  by_cases hb : (m.size : Int) + (gs.length : Int) > 1048576
  · rw [decide_eq_true hb]
    simp only [wharfingerlaw05_CredsParts.j0, wharfingerlaw05_alive.f]; rfl
  · rw [decide_eq_false hb, show (699 + d) + 3 = (701 + d) + 1 by omega, wharfingerlaw05_CredsParts.j0, if_neg (by simp)]
    by_cases hok : m.size ≤ 255 ∧ gs.length ≤ 16
    · obtain ⟨hm, hl⟩ := hok
      have h400 := credB_most s m u g gs hm hl
      have hpl := putL_length (bytesOf m)
      have hps := padI_small (bytesOf m).length
      have hbm := bytesOf_length m
      rw [show 701 + d = (700 + d) + 1 by omega, cPut_ok (700 + d) s m u g gs hm hl (by omega), Option.bind_some]
      dsimp only
      rw [if_pos rfl]
      rw [show words_Put.f s = some (beL s 4) from rfl, show words_Put.f u = some (beL u 4) from rfl, show words_Put.f g = some (beL g 4) from rfl, show words_Put.f ((gs.length : Int) % 4294967296) = some (beL (gs.length : Int) 4) by rw [show (gs.length : Int) % 4294967296 = gs.length by omega]; rfl]
      rw [Option.bind_some, sput_f m (by omega), Option.bind_some, if_pos (by rw [beL_length]; omega), Option.bind_some, Option.bind_some, if_pos (by simp only [List.length_append, beL_length]; omega), Option.bind_some, Option.bind_some, if_pos (by simp only [List.length_append, beL_length]; omega), Option.bind_some, Option.bind_some, if_pos (by simp only [List.length_append, beL_length]; omega)]
      have h1 := parts_l0 (credB s m u g gs) u g gs hl 701 d 0 (beL s 4 ++ putL (bytesOf m) ++ beL u 4 ++ beL g 4 ++ beL (gs.length : Int) 4) (by omega) (by omega) (by simp only [List.length_append, beL_length]; omega)
      rw [show ((0 : Nat) : Int) = 0 from rfl, List.drop_zero] at h1
      rw [show (700 + d) + 1 = 701 + d by omega, h1]
      have hB : beL s 4 ++ putL (bytesOf m) ++ beL u 4 ++ beL g 4 ++ beL (gs.length : Int) 4 ++ numsL gs = credB s m u g gs := by
        unfold credB
        simp only [List.append_assoc]
      rw [hB, show 701 = 700 + 1 from rfl, wharfingerlaw05_CredsParts.l0, if_neg (by omega), same_self _ _ (by omega) (by omega)]
      rfl
    · rw [show 701 + d = (700 + d) + 1 by omega, cPut_no (700 + d) s m u g gs (by omega), Option.bind_some]
      dsimp only
      rw [if_neg (by omega)]
end Go.Proofs.Ytncplnobmiljfaa.Pure
