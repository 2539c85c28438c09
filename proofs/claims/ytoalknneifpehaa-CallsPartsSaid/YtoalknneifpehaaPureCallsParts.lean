/- The bytes of a call are those of its parts, one behind the other. For any call. No condition. -/
import Derived.Test.YtoalknneifpehaaG6CallsParts1
import Derived.Test.YtoalknneifpehaaQ06g
namespace Go.Proofs.Ytoalknneifpehaa.Pure
open Go.RowKit Go.Proofs.Ytoalknneifpehaa.G6CallsParts Go.Proofs.Ytoalknneifpehaa.G6S Go.Proofs.Ytoalknneifpehaa.GB Go.Proofs.Ytoalknneifpehaa.GC Go.Proofs.Ytoalknneifpehaa.Hand Go.Proofs.YtoalknneifpehaaW.PrintWords Go.Proofs.YtoalknneifpehaaW.PrintLast

theorem call_parts_l0 (B ns : List Int) (x p v o f : Int) (m : ByteArray) (s u g : Int) (gs b : List Int) (hl : ns.length ≤ 16) (k : Nat) :
    ∀ (d i : Nat) (acc : List Int), ns.length - i = d → i ≤ ns.length → acc.length + 4 * d ≤ 10000 →
    wharfingerlaw06_CallsParts.l0 (k + d) B acc ns (i : Int) x p v o f m s u g gs b = wharfingerlaw06_CallsParts.l0 k B (acc ++ numsL (ns.drop i)) ns (ns.length : Int) x p v o f m s u g gs b
  | 0, i, acc, h1, h2, h3 => by
    obtain rfl : i = ns.length := by omega
    simp [numsL]
  | d + 1, i, acc, h1, h2, h3 => by
    have hi : i < ns.length := by omega
    rw [show k + (d + 1) = (k + d) + 1 by omega]
    conv => lhs; rw [wharfingerlaw06_CallsParts.l0]
    rw [if_pos (by omega), if_pos (by omega), rd_nat ns i hi, show words_Put.f ns[i] = some (beL ns[i] 4) from rfl, Option.bind_some, if_pos (by rw [beL_length]; omega), wrap_in (by omega) (by omega), show ((i : Int) + 1) = ((i + 1 : Nat) : Int) by omega]
    rw [call_parts_l0 B ns x p v o f m s u g gs b hl k d (i + 1) _ (by omega) (by omega) (by rw [List.length_append, beL_length]; omega)]
    rw [List.drop_eq_getElem_cons hi, numsL, List.append_assoc]
theorem call_parts_j2 (k : Nat) (B acc who : List Int) (x p v o f : Int) (m : ByteArray) (s u g : Int) (gs b : List Int) (ha : acc.length ≤ 10000) (hw : who.length ≤ 400) (hb : b.length ≤ 200000) (hB : B = acc ++ (putL who ++ (beL 0 4 ++ (putL [] ++ b)))) (hk : B.length < k) :
    wharfingerlaw06_CallsParts.j2 (k + 1) B acc who x p v o f m s u g gs b = some true := by
  have hpw := putL_length who
  have hps := padI_small who.length
  have hp0 : (putL ([] : List Int)).length = 4 := rfl
  rw [wharfingerlaw06_CallsParts.j2, put_f who (by omega), Option.bind_some, if_pos (by omega), Option.bind_some, show words_Put.f 0 = some (beL 0 4) from rfl, Option.bind_some, if_pos (by rw [List.length_append, beL_length]; omega), Option.bind_some, put_f [] (by simp), Option.bind_some, if_pos (by simp only [List.length_append, beL_length]; omega), Option.bind_some, if_pos (by simp only [List.length_append, beL_length]; omega)]
  rw [show acc ++ putL who ++ beL 0 4 ++ putL [] ++ b = B by rw [hB]; simp only [List.append_assoc]]
  rw [same_self _ _ (by rw [hB]; simp only [List.length_append, beL_length]; omega) hk]
  rfl
theorem CallsParts (x p v o f : Int) (m : ByteArray) (s u g : Int) (gs b : List Int) (h : CallA x p v o f m s u g gs b) : ∃ k, wharfingerlaw06_CallsParts.f k x p v o f m s u g gs b = some true := by
  obtain ⟨K, hK⟩ : ∃ K, K = b.length + 1000 := ⟨_, rfl⟩
  refine ⟨(K + 1 + 1 + 7) + 1, ?_⟩
  obtain ⟨q, hq, hq2⟩ := great_f x p v o f m s u g gs b
  unfold wharfingerlaw06_CallsParts.f
  simp only [wharfingerlaw06_alive.f, Option.bind_some, if_true]
  rw [hq, Option.bind_some]
  cases q with
  | true => simp only [wharfingerlaw06_CallsParts.j0, wharfingerlaw06_alive.f]; rfl
  | false =>
    obtain ⟨hm, hl, hb⟩ := hq2 rfl
    rw [wharfingerlaw06_CallsParts.j0, if_neg (by simp)]
    rcases h.cases with ⟨hc, _⟩ | ⟨hc, _⟩ | ⟨hc, hok, hlen⟩
    · rw [hc, Option.bind_some]; rfl
    · rw [hc, Option.bind_some]; rfl
    · rw [hc, Option.bind_some]
      dsimp only
      rw [if_pos rfl]
      have h1 := call_parts_l0 (callB x p v o f m s u g gs ++ b) [x, 0, 2, p, v, o, f] x p v o f m s u g gs b (by simp) (K + 1 + 1) 7 0 [] (by simp) (by simp) (by simp)
      rw [show ((0 : Nat) : Int) = 0 from rfl, List.drop_zero, List.nil_append] at h1
      have hn : (numsL [x, 0, 2, p, v, o, f]).length = 28 := by rw [numsL_length]; rfl
      have hBl := callB_most hok
      have hT : (callB x p v o f m s u g gs ++ b).length < K := by rw [List.length_append]; omega
      rw [h1, wharfingerlaw06_CallsParts.l0, if_neg (by simp)]
      by_cases hf : f = 1
      · have hsm := hok.f1 hf
        rw [if_pos hf, cPut_ok K s m u g gs hsm.1 hsm.2 (by omega), Option.bind_some]
        dsimp only
        rw [if_pos rfl]
        refine call_parts_j2 K _ _ _ x p v o f m s u g gs b (by omega) (credB_most s m u g gs hsm.1 hsm.2) hb ?_ hT
        rw [callB_app]; unfold whoL; rw [if_pos hf]
      · rw [if_neg hf]
        refine call_parts_j2 K _ _ _ x p v o f m s u g gs b (by omega) (by simp) hb ?_ hT
        rw [callB_app]; unfold whoL; rw [if_neg hf]
end Go.Proofs.Ytoalknneifpehaa.Pure
