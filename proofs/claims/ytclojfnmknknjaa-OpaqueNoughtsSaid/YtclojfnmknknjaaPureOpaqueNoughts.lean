/- A byte of the padding that is not 0 is refused, wherever it stands. For all bytes, any byte that is not 0, and wherever it stands. No condition. -/
import Derived.Test.YtclojfnmknknjaaG4
import Derived.Test.YtclojfnmknknjaaQ02
namespace Go.Proofs.Ytclojfnmknknjaa.Pure
open Go.RowKit Go.Proofs.Ytclojfnmknknjaa.G Go.Proofs.Ytclojfnmknknjaa.Hand Go.Proofs.YtclojfnmknknjaaW.PrintWords Go.Proofs.YtclojfnmknknjaaW.PrintLast

theorem cutS_bad (xs : List Int) (n i : Nat) (c : Int) (hc : c ≠ 0) (h1 : n ≤ i) (h2 : i < n + (padI n).toNat) (h3 : n + (padI n).toNat ≤ xs.length) : cutS (xs.set i c) n = 5 := by
  have hp := padI_range n
  unfold cutS
  rw [List.length_set, if_neg (by omega), if_neg]
  intro hall
  rw [List.all_eq_true] at hall
  have hm : c ∈ ((xs.set i c).drop n).take (padI n).toNat := by
    rw [List.mem_take_iff_getElem]
    refine ⟨i - n, by rw [List.length_drop, List.length_set]; omega, ?_⟩
    rw [List.getElem_drop]
    have : n + (i - n) = i := by omega
    simp [this]
  have := hall _ hm
  simp at this
  exact hc this

theorem set_take (xs : List Int) (i j : Nat) (c : Int) (h : j ≤ i) : (xs.set i c).take j = xs.take j := by
  rw [List.take_set_of_le h]
theorem set_drop (xs : List Int) (i j : Nat) (c : Int) : (xs.set (j + i) c).drop j = (xs.drop j).set i c := by
  rw [List.drop_set, if_neg (by omega), show j + i - j = i by omega]

theorem OpaqueNoughts : wharfingerlaw02_OpaqueNoughts.Pure := by
  intro l0 a1 a2 m0 s0 w0 wb wa
  obtain ⟨K, hK⟩ : ∃ K, K = l0.length + 20 := ⟨_, rfl⟩
  refine ⟨K + 1 + 1 + 1, ?_⟩
  have ha := wf_u8 wa
  have hbo := byteOk_of_wf w0
  unfold wharfingerlaw02_OpaqueNoughts.f
  rw [show K + 1 + 1 + 1 = (K + 1) + 2 from rfl, beyond1 (K + 1) _ (by omega) (by omega)]
  simp only [wharfingerlaw02_alive.f, Option.bind_some, if_true]
  have out : ∀ k, wharfingerlaw02_OpaqueNoughts.j0 (k + 1) l0 a1 a2 true = some true := fun k => by
    simp only [wharfingerlaw02_OpaqueNoughts.j0, wharfingerlaw02_alive.f]; rfl
  by_cases hb : (l0.length : Int) > 1048576
  · rw [decide_eq_true hb, if_pos rfl]; exact out _
  · rw [decide_eq_false hb, if_neg (by simp)]
    by_cases h6 : (l0.length : Int) > 65536
    · rw [decide_eq_true h6]; exact out _
    · rw [decide_eq_false h6]
      simp only [wharfingerlaw02_OpaqueNoughts.j0, Bool.false_eq_true, if_false]
      rw [put_f l0 (by omega), Option.bind_some, putFixed_f l0 (by omega), Option.bind_some]
      have hl := putL_length l0
      have hl2 := padded_length l0
      have hp := padI_range l0.length
      unfold opaque_Pad.f
      rw [Option.bind_some, wrap_in (x := 4 + (l0.length : Int)) (by omega) (by omega), wrap_in (x := 4 + (l0.length : Int) + padI l0.length) (by omega) (by omega), wrap_in (x := (l0.length : Int) + padI l0.length) (by omega) (by omega)]
      rw [if_pos (by omega), if_pos (by omega), if_neg (by omega), decide_eq_false (by omega)]
      simp only [wharfingerlaw02_OpaqueNoughts.j1, Bool.false_eq_true, if_false]
      obtain ⟨p, hpq⟩ : ∃ p : Nat, padI l0.length = p := ⟨(padI l0.length).toNat, by omega⟩
      rw [hpq] at hp hl hl2 ⊢
      by_cases hz : (p : Int) = 0
      · rw [if_pos hz]
        simp only [wharfingerlaw02_OpaqueNoughts.j2, if_true]
      · rw [if_neg hz]
        by_cases h1 : a1 = 0
        · subst h1
          simp only [wharfingerlaw02_OpaqueNoughts.j2, BEq.rfl, if_true]
        · have e1 : (a1 == 0) = false := beq_eq_false_iff_ne.mpr h1
          rw [e1]
          simp only [wharfingerlaw02_OpaqueNoughts.j2, Bool.false_eq_true, if_false]
          rw [if_neg hz, wrap_in (x := a2) (by omega) (by omega)]
          have hr : 0 ≤ Int.tmod a2 p ∧ Int.tmod a2 p < p := by
            rw [Int.tmod_eq_emod_of_nonneg ha.1]
            exact ⟨Int.emod_nonneg _ hz, Int.emod_lt_of_pos _ (by omega)⟩
          generalize Int.tmod a2 p = q at hr ⊢
          rw [wrap_in (x := 4 + (l0.length : Int)) (by omega) (by omega), wrap_in (x := 4 + (l0.length : Int) + q) (by omega) (by omega), wrap_in (x := (l0.length : Int) + q) (by omega) (by omega)]
          obtain ⟨q, rfl⟩ := Int.eq_ofNat_of_zero_le hr.1
          rw [if_pos (by omega), if_pos (by omega), if_pos (by omega), if_pos (by omega)]
          rw [show (4 + (l0.length : Int) + q).toNat = 4 + (l0.length + q) by omega, show ((l0.length : Int) + q).toNat = l0.length + q by omega]
          have h0 := put_take4 l0 []
          have hd := put_drop4 l0 []
          rw [List.append_nil] at h0
          rw [List.append_nil, List.append_nil] at hd
          have g1 : opaque_Get.f ((putL l0).set (4 + (l0.length + q)) a1) l0.length = some ([], 0, 5) := by
            unfold opaque_Get.f
            rw [set_take _ _ _ _ (by omega), h0, if_pos (byteOk_be4 _), deB4 _ (by omega) (by omega), if_neg (by rw [List.length_set]; omega), if_neg (by omega), Int.toNat_natCast, set_drop, hd]
            rw [cutS_bad (padded l0) l0.length (l0.length + q) a1 h1 (by omega) (by rw [hpq]; omega) (by rw [hpq]; omega), if_neg (by omega)]
          have g2 : opaque_GetFixed.f ((padded l0).set (l0.length + q) a1) l0.length = some ([], 0, 5) := by
            unfold opaque_GetFixed.f
            rw [if_neg (by omega), if_neg (by omega), Int.toNat_natCast, cutS_bad (padded l0) l0.length (l0.length + q) a1 h1 (by omega) (by rw [hpq]; omega) (by rw [hpq]; omega), if_neg (by omega)]
          rw [g1, Option.bind_some, g2, Option.bind_some, if_pos rfl]
          rfl

end Go.Proofs.Ytclojfnmknknjaa.Pure
