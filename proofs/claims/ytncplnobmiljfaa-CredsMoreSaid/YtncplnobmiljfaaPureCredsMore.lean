/- Whoever is in a group is in it by any groups more. For anybody, any groups, any group. No condition. -/
import Derived.Test.YtncplnobmiljfaaM05
namespace Go.Proofs.Ytncplnobmiljfaa.Pure
open Go.RowKit Go.Proofs.Ytncplnobmiljfaa.GB Go.Proofs.Ytncplnobmiljfaa.GC Go.Proofs.Ytncplnobmiljfaa.Hand Go.Proofs.YtncplnobmiljfaaW.PrintWords Go.Proofs.YtncplnobmiljfaaW.PrintLast

theorem more_in (k : Nat) (u g : Int) (gs xs : List Int) (x : Int) (hl : gs.length + xs.length ≤ 1000000000) (hk : gs.length + xs.length < k) : creds_In.f k u g (xs ++ gs) x = some ((decide (g = x) || decide (x ∈ gs)) || decide (x ∈ xs)) := by
  rw [in_f _ u g (xs ++ gs) x (by rw [List.length_append]; omega) (by rw [List.length_append]; omega)]
  have hm : decide (x ∈ xs ++ gs) = (decide (x ∈ xs) || decide (x ∈ gs)) := by
    rw [← Bool.decide_or]; exact decide_eq_decide.2 List.mem_append
  rw [hm]
  cases decide (g = x) <;> cases decide (x ∈ gs) <;> cases decide (x ∈ xs) <;> rfl
theorem in_self (k : Nat) (u g : Int) (gs : List Int) (hl : gs.length ≤ 1000000000) (hk : gs.length < k) : creds_In.f k u g gs g = some true := by
  rw [in_f _ u g gs g hl hk, decide_eq_true rfl]; rfl
theorem in_none (k : Nat) (g x : Int) (hk : 0 < k) : creds_In.f k 0 g [] x = some (x == g) := by
  rw [in_f _ 0 g [] x (by simp) (by simpa using hk)]
  by_cases h : g = x
  · subst h; simp
  · have : (x == g) = false := beq_eq_false_iff_ne.mpr (Ne.symm h)
    rw [this, decide_eq_false h]; simp
end Go.Proofs.Ytncplnobmiljfaa.Pure
