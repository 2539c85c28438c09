/- Bytes that were put without their length are got back, if it is known, whatever stands behind them; of fewer bytes none are. For all bytes, at least one, all bytes behind, and however many are left. No condition. -/
import Derived.Test.YtclojfnmknknjaaG2
import Derived.Test.YtclojfnmknknjaaQ02
namespace Go.Proofs.Ytclojfnmknknjaa.Pure
open Go.RowKit Go.Proofs.Ytclojfnmknknjaa.G Go.Proofs.Ytclojfnmknknjaa.Hand Go.Proofs.YtclojfnmknknjaaW.PrintWords Go.Proofs.YtclojfnmknknjaaW.PrintLast

theorem getFixed_put (xs more : List Int) (hx : xs.length ≤ 65536) : opaque_GetFixed.f (padded xs ++ more) xs.length = some (xs, (xs.length : Int) + padI xs.length, 0) := by
  unfold opaque_GetFixed.f
  rw [if_neg (by omega), if_neg (by omega), Int.toNat_natCast, cutS_padded, if_pos rfl]
  congr 2
  unfold padded
  rw [List.append_assoc, List.take_left]
theorem getFixed_cut (xs : List Int) (c : Nat) (hx : xs.length ≤ 65536) (hc : c < (padded xs).length) : opaque_GetFixed.f ((padded xs).take c) xs.length = some ([], 0, 4) := by
  unfold opaque_GetFixed.f
  rw [if_neg (by omega), if_neg (by omega), Int.toNat_natCast]
  have hs : cutS ((padded xs).take c) xs.length = 4 := by
    apply cutS_short
    rw [List.length_take]
    rw [padded_length] at hc ⊢
    omega
  rw [hs, if_neg (by omega)]

theorem OpaqueFixedBack : wharfingerlaw02_OpaqueFixedBack.Pure := by
  intro l0 l1 a2 m0 s0 w0 m1 s1 w1 wa
  obtain ⟨K, hK⟩ : ∃ K, K = l0.length + l1.length + 2 := ⟨_, rfl⟩
  refine ⟨K + 1 + 1 + 1, ?_⟩
  have ha := wf_u16 wa
  unfold wharfingerlaw02_OpaqueFixedBack.f
  rw [show K + 1 + 1 + 1 = (K + 1) + 2 from rfl, beyond1 (K + 1) _ (by omega) (by omega)]
  simp only [wharfingerlaw02_alive.f, Option.bind_some, if_true]
  have out : ∀ k, wharfingerlaw02_OpaqueFixedBack.j0 (k + 1) l0 l1 a2 true = some true := fun k => by
    simp only [wharfingerlaw02_OpaqueFixedBack.j0, wharfingerlaw02_alive.f]; rfl
  by_cases h0 : (l0.length : Int) = 0
  · rw [if_pos h0]; exact out _
  · rw [if_neg h0]
    by_cases h6 : (l0.length : Int) > 65536
    · rw [if_pos h6]; exact out _
    · rw [if_neg h6]
      by_cases hb : (l1.length : Int) > 1048576
      · rw [decide_eq_true hb]; exact out _
      · rw [decide_eq_false hb]
        simp only [wharfingerlaw02_OpaqueFixedBack.j0, Bool.false_eq_true, if_false]
        rw [putFixed_f l0 (by omega), Option.bind_some]
        have hl := padded_length l0
        have hp := padI_range l0.length
        have hmod := padI_mod l0.length
        obtain ⟨n, hn⟩ : ∃ n, (padded l0).length = n := ⟨_, rfl⟩
        rw [hn]
        rw [if_neg (by first | omega | (dsimp only; omega)), if_pos (by first | omega | (dsimp only; omega)), wrap_in (x := (l0.length : Int) + 3) (by omega) (by omega)]
        rw [decide_eq_false (by omega)]
        simp only [wharfingerlaw02_OpaqueFixedBack.j1, Bool.false_eq_true, if_false]
        rw [if_neg (by first | omega | (dsimp only; omega)), wrap_in (x := a2) (by omega) (by omega)]
        have hr : 0 ≤ Int.tmod a2 n ∧ Int.tmod a2 n < n := by
          rw [Int.tmod_eq_emod_of_nonneg ha.1]
          exact ⟨Int.emod_nonneg _ (by omega), Int.emod_lt_of_pos _ (by omega)⟩
        rw [if_pos hr.1, if_pos (by rw [hn]; omega)]
        rw [getFixed_cut l0 (Int.tmod a2 n).toNat (by omega) (by omega), Option.bind_some, if_pos (by first | omega | (dsimp only; omega)), getFixed_put l0 l1 (by omega), Option.bind_some]
        rw [if_pos rfl, if_pos rfl, if_pos (by first | omega | (dsimp only; omega)), same_self _ l0 (by omega) (by omega)]
        rfl

end Go.Proofs.Ytclojfnmknknjaa.Pure
