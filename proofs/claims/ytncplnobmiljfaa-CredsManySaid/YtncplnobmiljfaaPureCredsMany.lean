/- More groups than may be are refused. For any number. No condition. -/
import Derived.Test.YtncplnobmiljfaaG5M1
import Derived.Test.YtncplnobmiljfaaQ05b
namespace Go.Proofs.Ytncplnobmiljfaa.Pure
open Go.RowKit Go.Proofs.Ytncplnobmiljfaa.G5M Go.Proofs.Ytncplnobmiljfaa.GB Go.Proofs.Ytncplnobmiljfaa.GC Go.Proofs.Ytncplnobmiljfaa.Hand Go.Proofs.YtncplnobmiljfaaW.PrintWords Go.Proofs.YtncplnobmiljfaaW.PrintLast

theorem many_l0 (x : Int) (n k : Nat) (hn : n ≤ 100) : ∀ (m i : Nat) (acc gs : List Int), n - i = m → i ≤ n → acc.length + 4 * m ≤ 10000 → gs.length + m ≤ 10000 →
    wharfingerlaw05_CredsMany.l0 (k + m) x (n : Int) acc (i : Int) 1 2 gs = wharfingerlaw05_CredsMany.l0 k x (n : Int) (acc ++ numsL (List.replicate m x)) (n : Int) 1 2 (gs ++ List.replicate m x)
  | 0, i, acc, gs, h1, h2, h3, h4 => by
    obtain rfl : i = n := by omega
    simp [numsL]
  | m + 1, i, acc, gs, h1, h2, h3, h4 => by
    rw [show k + (m + 1) = (k + m) + 1 by omega]
    conv => lhs; rw [wharfingerlaw05_CredsMany.l0]
    rw [if_pos (by omega), if_pos (by omega), show words_Put.f x = some (beL x 4) from rfl, Option.bind_some, if_pos (by rw [beL_length]; omega), wrap_in (by omega) (by omega), show ((i : Int) + 1) = ((i + 1 : Nat) : Int) by omega]
    rw [many_l0 x n k hn m (i + 1) _ _ (by omega) (by omega) (by rw [List.length_append, beL_length]; omega) (by rw [List.length_append, List.length_singleton]; omega)]
    rw [List.replicate_succ, numsL, List.append_assoc, List.append_assoc]
    rfl
theorem CredsMany : wharfingerlaw05_CredsMany.Pure := by
  intro a0 a1 w0 w1
  have h0 := wf_u8 w0
  have h1 := wf_u32 w1
  obtain ⟨n, hn⟩ := Int.eq_ofNat_of_zero_le (show 0 ≤ a0 % 40 by omega)
  have hn40 : n < 40 := by omega
  have hw : wrap64 (Int.tmod a0 40) = (n : Int) := by rw [Int.tmod_eq_emod_of_nonneg h0.1, hn]; exact wrap_in (by omega) (by omega)
  refine ⟨500 + 1 + n, ?_⟩
  have hb0 : (bytesOf (⟨#[]⟩ : ByteArray)) = [] := rfl
  have hp0 : (putL (bytesOf (⟨#[]⟩ : ByteArray))).length = 4 := by rw [hb0]; rfl
  unfold wharfingerlaw05_CredsMany.f
  rw [hw]
  rw [show words_Put.f 0 = some (beL 0 4) from rfl, show words_Put.f 1 = some (beL 1 4) from rfl, show words_Put.f 2 = some (beL 2 4) from rfl, show words_Put.f ((n : Int) % 4294967296) = some (beL (n : Int) 4) by rw [show (n : Int) % 4294967296 = n by omega]; rfl]
  rw [Option.bind_some, sput_f _ (by decide), Option.bind_some, if_pos (by rw [beL_length, hp0]; omega), Option.bind_some, Option.bind_some, if_pos (by simp only [List.length_append, beL_length, hp0]; omega), Option.bind_some, Option.bind_some, if_pos (by simp only [List.length_append, beL_length, hp0]; omega), Option.bind_some, Option.bind_some, if_pos (by simp only [List.length_append, beL_length, hp0]; omega)]
  have hm := many_l0 a1 n (500 + 1) (by omega) n 0 (beL 0 4 ++ putL (bytesOf ⟨#[]⟩) ++ beL 1 4 ++ beL 2 4 ++ beL (n : Int) 4) [] (by omega) (by omega) (by simp only [List.length_append, beL_length, hp0]; omega) (by simp; omega)
  rw [show ((0 : Nat) : Int) = 0 from rfl] at hm
  rw [hm]
  have hB : beL 0 4 ++ putL (bytesOf ⟨#[]⟩) ++ beL 1 4 ++ beL 2 4 ++ beL (n : Int) 4 ++ numsL (List.replicate n a1) = credB 0 ⟨#[]⟩ 1 2 (List.replicate n a1) := by
    unfold credB
    rw [List.length_replicate]
    simp only [List.append_assoc]
  rw [hB, List.nil_append, wharfingerlaw05_CredsMany.l0, if_neg (by omega)]
  have hrep : ∀ x ∈ List.replicate n a1, 0 ≤ x ∧ x < 4294967296 := fun x hx => by rw [List.eq_of_mem_replicate hx]; exact h1
  have hlen : (List.replicate n a1).length = n := List.length_replicate
  by_cases h16 : 16 < n
  · rw [cPut_no 499 _ _ _ _ _ (.inr (by omega)), Option.bind_some]
    unfold creds_Get.f
    rw [if_pos (byteOk_credB ..), Option.bind_some, cred_many 0 ⟨#[]⟩ 1 2 _ (by omega) (by omega) (by omega) (by decide) (by omega) (by omega)]
    dsimp only
    rw [if_pos (by omega)]
    simp only [wharfingerlaw05_alive.f, Option.bind_some, if_true]
    rfl
  · rw [cPut_ok 499 _ _ _ _ _ (by decide) (by omega) (by omega), Option.bind_some]
    have hr := cred_read 0 ⟨#[]⟩ 1 2 (List.replicate n a1) [] (by omega) (by omega) (by omega) hrep (by decide) (by omega)
    rw [List.append_nil, if_pos rfl] at hr
    have hlb := credB_most 0 ⟨#[]⟩ 1 2 (List.replicate n a1) (by decide) (by omega)
    unfold creds_Get.f
    rw [if_pos (byteOk_credB ..), Option.bind_some, hr]
    dsimp only
    rw [if_neg (by omega)]
    simp only [wharfingerlaw05_alive.f, Option.bind_some, if_true]
    rw [same_eq _ _ _ (by omega) (by omega), decide_eq_true rfl, Option.bind_some, if_pos rfl, sameCred_self _ _ _ _ (by omega) (by omega)]
    rfl
end Go.Proofs.Ytncplnobmiljfaa.Pure
