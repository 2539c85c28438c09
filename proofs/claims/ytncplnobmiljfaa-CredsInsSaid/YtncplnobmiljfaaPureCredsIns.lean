/- Whether anybody belongs to any group is as documented. For anybody, any group. No condition. -/
import Derived.Test.YtncplnobmiljfaaB05
namespace Go.Proofs.Ytncplnobmiljfaa.Pure
open Go.RowKit Go.Proofs.Ytncplnobmiljfaa.GI Go.Proofs.Ytncplnobmiljfaa.GB Go.Proofs.Ytncplnobmiljfaa.GC Go.Proofs.Ytncplnobmiljfaa.Hand Go.Proofs.YtncplnobmiljfaaW.PrintWords Go.Proofs.YtncplnobmiljfaaW.PrintLast

theorem refin_l0 (u g : Int) (gs : List Int) (x : Int) (hl : gs.length ≤ 1000000000) : ∀ (m k i : Nat), gs.length - i = m → i ≤ gs.length → m < k → wharfingerref05_In.l0 k x (i : Int) u g gs = some (decide (g = x) || decide (x ∈ gs.drop i)) := by
  intro m
  induction m with
  | zero =>
    intro k i h1 h2 h3
    obtain ⟨k, rfl⟩ : ∃ m, k = m + 1 := ⟨k - 1, by omega⟩
    rw [wharfingerref05_In.l0, if_neg (by omega), List.drop_of_length_le (by omega)]
    by_cases h : g = x
    · rw [decide_eq_true h, beq_iff_eq.mpr h]; rfl
    · rw [decide_eq_false h, beq_eq_false_iff_ne.mpr h]; simp
  | succ m ih =>
    intro k i h1 h2 h3
    obtain ⟨k, rfl⟩ : ∃ m, k = m + 1 := ⟨k - 1, by omega⟩
    have hi : i < gs.length := by omega
    rw [wharfingerref05_In.l0, if_pos (by omega), if_pos (by omega), rd_nat gs i hi, List.drop_eq_getElem_cons hi]
    by_cases h : gs[i] = x
    · rw [if_pos h, decide_eq_true (List.mem_cons.2 (.inl h.symm)), Bool.or_true]
    · rw [if_neg h, wrap_in (by omega) (by omega), show ((i : Int) + 1) = ((i + 1 : Nat) : Int) by omega, ih k (i + 1) (by omega) (by omega) (by omega)]
      congr 2
      exact decide_eq_decide.2 ⟨fun e => List.mem_cons_of_mem _ e, fun e => by
        rcases List.mem_cons.1 e with e | e
        · exact absurd e.symm h
        · exact e⟩
theorem refin_f (k : Nat) (u g : Int) (gs : List Int) (x : Int) (hl : gs.length ≤ 1000000000) (hk : gs.length < k) : wharfingerref05_In.f k u g gs x = some (decide (g = x) || decide (x ∈ gs)) := by
  unfold wharfingerref05_In.f
  have := refin_l0 u g gs x hl gs.length k 0 (by omega) (by omega) hk
  rw [show ((0 : Nat) : Int) = 0 from rfl, List.drop_zero] at this
  exact this
end Go.Proofs.Ytncplnobmiljfaa.Pure
