/- Bytes that were put are got back, as many, whatever stands behind them; of fewer bytes none are; above a bound they are refused. For all bytes, all bytes behind, and however many are left. No condition. -/
import Derived.Test.YtclojfnmknknjaaG1
import Derived.Test.YtclojfnmknknjaaQ02
namespace Go.Proofs.Ytclojfnmknknjaa.Pure
open Go.RowKit Go.Proofs.Ytclojfnmknknjaa.G Go.Proofs.Ytclojfnmknknjaa.Hand Go.Proofs.YtclojfnmknknjaaW.PrintWords Go.Proofs.YtclojfnmknknjaaW.PrintLast

theorem OpaqueBack : wharfingerlaw02_OpaqueBack.Pure := by
  intro l0 l1 a2 m0 s0 w0 m1 s1 w1 wa
  obtain ⟨K, hK⟩ : ∃ K, K = l0.length + l1.length + 2 := ⟨_, rfl⟩
  refine ⟨K + 1 + 1 + 1, ?_⟩
  have ha := wf_u16 wa
  unfold wharfingerlaw02_OpaqueBack.f
  rw [show K + 1 + 1 + 1 = K + 3 from rfl, beyond2 K _ _ (by omega) (by omega) (by omega)]
  simp only [wharfingerlaw02_alive.f, Option.bind_some, if_true, wharfingerlaw02_OpaqueBack.j0]
  by_cases hb : (l0.length : Int) + l1.length > 1048576
  · simp [hb]
  · simp only [hb, decide_false, Bool.false_eq_true, if_false]
    rw [put_f l0 (by omega)]
    have hl := putL_length l0
    have hp := padI_range l0.length
    have hmod := putL_mod l0
    obtain ⟨n, hn⟩ : ∃ n, (putL l0).length = n := ⟨_, rfl⟩
    rw [Option.bind_some]
    rw [hn]
    rw [wrap_in (x := 4 + (l0.length : Int)) (by omega) (by omega), if_neg (by omega)]
    have e2 : (((n : Int) % 4) != 0) = false := bne_eq_false_iff_eq.mpr (by omega)
    rw [e2]
    simp only [wharfingerlaw02_OpaqueBack.j1, Bool.false_eq_true, if_false]
    rw [if_neg (by omega), wrap_in (x := a2) (by omega) (by omega)]
    have hr : 0 ≤ Int.tmod a2 n ∧ Int.tmod a2 n < n := by
      rw [Int.tmod_eq_emod_of_nonneg ha.1]
      exact ⟨Int.emod_nonneg _ (by omega), Int.emod_lt_of_pos _ (by omega)⟩
    rw [if_pos hr.1, if_pos (by rw [hn]; omega)]
    rw [get_put_cut l0 (Int.tmod a2 n).toNat l0.length (by omega) (by omega) (by omega)]
    have g1 := get_put_limit l0 [] (wrap64 ((l0.length : Int) - 1)) (by omega) (by rw [wrap_in (by omega) (by omega)]; omega)
    rw [List.append_nil] at g1
    rw [g1, get_put l0 l1 l0.length (by omega) (by omega)]
    simp only [Option.bind_some, if_true]
    rw [if_pos (by omega), if_pos (by omega), same_self _ l0 (by omega) (by omega)]
    rfl

end Go.Proofs.Ytclojfnmknknjaa.Pure
