/- What is got of any bytes is put as those that it had. For all bytes and any bound. No condition. -/
import Derived.Test.YtclojfnmknknjaaG3
import Derived.Test.YtclojfnmknknjaaQ02
namespace Go.Proofs.Ytclojfnmknknjaa.Pure
open Go.RowKit Go.Proofs.Ytclojfnmknknjaa.G Go.Proofs.Ytclojfnmknknjaa.Hand Go.Proofs.YtclojfnmknknjaaW.PrintWords Go.Proofs.YtclojfnmknknjaaW.PrintLast

/-- What cut lets through is padded with noughts. -/
theorem cut_padded (xs : List Int) (n : Nat) (h : cutS xs n = 0) : n + (padI n).toNat ≤ xs.length ∧ padded (xs.take n) = xs.take (n + (padI n).toNat) := by
  have hp := padI_range n
  unfold cutS at h
  by_cases h0 : (xs.length : Int) < n + padI n
  · rw [if_pos h0] at h; omega
  · rw [if_neg h0] at h
    have hle : n + (padI n).toNat ≤ xs.length := by omega
    refine ⟨hle, ?_⟩
    by_cases h1 : ((xs.drop n).take (padI n).toNat).all (· == 0) = true
    · have hlen : (xs.take n).length = n := by rw [List.length_take]; omega
      unfold padded
      rw [hlen, List.take_add]
      congr 1
      apply List.ext_getElem
      · rw [List.length_replicate, List.length_take, List.length_drop]; omega
      · intro i h2 h3
        rw [List.all_eq_true] at h1
        have := h1 _ (List.getElem_mem h3)
        simp at this
        simpa using this.symm
    · rw [if_neg h1] at h; omega

theorem be4_de (l : List Int) (h : l.length = 4) (hb : byteOk l = true) : beL (deB l) 4 = l := by
  match l, h with
  | [a, b, c, d], _ =>
    simp only [byteOk, List.all_cons, List.all_nil, Bool.and_true, Bool.and_eq_true, decide_eq_true_eq] at hb
    rw [beL4]
    simp only [deB, List.foldl_cons, List.foldl_nil]
    obtain ⟨⟨_, _⟩, ⟨_, _⟩, ⟨_, _⟩, _, _⟩ := hb
    congr 1
    · omega
    · congr 1
      · omega
      · congr 1
        · omega
        · congr 1
          omega

theorem OpaqueAgain : wharfingerlaw02_OpaqueAgain.Pure := by
  intro l0 a1 m0 s0 w0 wa
  obtain ⟨K, hK⟩ : ∃ K, K = l0.length + 20 := ⟨_, rfl⟩
  refine ⟨K + 1 + 1, ?_⟩
  have ha := wf_u32 wa
  have hbo := byteOk_of_wf w0
  unfold wharfingerlaw02_OpaqueAgain.f
  rw [show K + 1 + 1 = K + 2 from rfl, beyond1 K _ (by omega) (by omega)]
  simp only [wharfingerlaw02_alive.f, Option.bind_some, if_true]
  by_cases hb : (l0.length : Int) > 1048576
  · rw [decide_eq_true hb]
    simp only [wharfingerlaw02_OpaqueAgain.j0, wharfingerlaw02_alive.f]; rfl
  · rw [decide_eq_false hb]
    -- the second half
    have second : ∀ k, l0.length + 10 ≤ k → wharfingerlaw02_OpaqueAgain.j1 (k + 1) l0 a1 false = some true := by
      intro k hk
      simp only [wharfingerlaw02_OpaqueAgain.j1, Bool.false_eq_true, if_false]
      have hr : 0 ≤ Int.tmod a1 70000 ∧ Int.tmod a1 70000 < 70000 := by
        rw [Int.tmod_eq_emod_of_nonneg ha.1]
        exact ⟨Int.emod_nonneg _ (by omega), Int.emod_lt_of_pos _ (by omega)⟩
      generalize Int.tmod a1 70000 = q at hr
      rw [wrap_in (x := q) (by omega) (by omega)]
      obtain ⟨n, rfl⟩ := Int.eq_ofNat_of_zero_le hr.1
      unfold opaque_GetFixed.f
      rw [if_neg (by first | omega | (dsimp only; omega))]
      by_cases h6 : 65536 < (n : Int)
      · rw [if_pos h6, Option.bind_some, if_neg (by first | omega | (dsimp only; omega))]; rfl
      · rw [if_neg h6, Int.toNat_natCast]
        rcases cutS_cases l0 n with ⟨e, _⟩ | ⟨e, hle⟩ | ⟨e, _⟩
        · rw [e, if_neg (by first | omega | (dsimp only; omega)), Option.bind_some, if_neg (by first | omega | (dsimp only; omega))]; rfl
        · rw [if_pos e, Option.bind_some]
          have hc := cut_padded l0 n e
          have hp := padI_range n
          rw [if_pos rfl, if_pos (by first | omega | (dsimp only; omega)), putFixed_f _ (by rw [List.length_take]; omega), Option.bind_some, if_pos (by first | omega | (dsimp only; omega)), hc.2]
          rw [show ((n : Int) + padI n).toNat = n + (padI n).toNat by omega, same_self _ _ (by rw [List.length_take]; omega) (by rw [List.length_take]; omega)]
          rfl
        · rw [e, if_neg (by first | omega | (dsimp only; omega)), Option.bind_some, if_neg (by first | omega | (dsimp only; omega))]; rfl
    simp only [wharfingerlaw02_OpaqueAgain.j0, Bool.false_eq_true, if_false]
    rw [wrap_in (x := a1) (by omega) (by omega)]
    have bad : ∀ e : Int, e ≠ 0 → ((some (([] : List Int), (0 : Int), e)).bind fun bt169 => (if bt169.2.2 = 0 then (if bt169.2.1 > (l0.length : Int) then (wharfingerlaw02_OpaqueAgain.j1 (K + 1) l0 a1 true) else (if (bt169.1.length : Int) > a1 then (wharfingerlaw02_OpaqueAgain.j1 (K + 1) l0 a1 true) else ((opaque_Put.f bt169.1).bind fun t174 => (if 0 ≤ bt169.2.1 then (if bt169.2.1 ≤ (l0.length : Int) then ((wharfingerlaw01_SameBytes.f (K + 1) t174 (l0.take (bt169.2.1 : Int).toNat)).bind fun t178 => (if t178 = true then (wharfingerlaw02_OpaqueAgain.j1 (K + 1) l0 a1 false) else (wharfingerlaw02_OpaqueAgain.j1 (K + 1) l0 a1 true))) else (none)) else (none))))) else (if bt169.2.1 = 0 then (wharfingerlaw02_OpaqueAgain.j1 (K + 1) l0 a1 ((bt169.1.length : Int) != 0)) else (wharfingerlaw02_OpaqueAgain.j1 (K + 1) l0 a1 true)))) = some true := by
      intro e he
      rw [Option.bind_some, if_neg he, if_pos rfl]
      exact second K (by omega)
    unfold opaque_Get.f
    rw [if_pos (byteOk_take hbo 4)]
    by_cases h4 : l0.length < 4
    · rw [if_pos h4]; exact bad 4 (by omega)
    · rw [if_neg h4]
      have hdr := deB_range 4 (l0.take 4) (by rw [List.length_take]; omega) (byteOk_take hbo 4)
      have hbe := be4_de (l0.take 4) (by rw [List.length_take]; omega) (byteOk_take hbo 4)
      obtain ⟨n, hn⟩ := Int.eq_ofNat_of_zero_le hdr.1
      rw [hn] at hbe ⊢
      rw [Int.toNat_natCast]
      by_cases h5 : a1 < (n : Int)
      · rw [if_pos h5]; exact bad 3 (by omega)
      · rw [if_neg h5]
        by_cases h3 : cutS (l0.drop 4) n = 0
        · rw [if_pos h3]
          have hc := cut_padded (l0.drop 4) n h3
          have hp := padI_range n
          have hdl : (l0.drop 4).length = l0.length - 4 := List.length_drop
          have htl : ((l0.drop 4).take n).length = n := by rw [List.length_take]; omega
          rw [Option.bind_some, if_pos rfl, if_neg (by first | omega | (dsimp only; omega)), if_neg (by first | omega | (dsimp only; omega))]
          dsimp only
          rw [put_f _ (by omega), Option.bind_some, if_pos (by first | omega | (dsimp only; omega)), if_pos (by first | omega | (dsimp only; omega))]
          have hput : putL ((l0.drop 4).take n) = l0.take (4 + (n : Int) + padI n).toNat := by
            unfold putL
            rw [htl, hbe, hc.2, show (4 + (n : Int) + padI n).toNat = 4 + (n + (padI n).toNat) by omega]
            exact List.take_add.symm
          rw [hput, same_self _ _ (by rw [List.length_take]; omega) (by rw [List.length_take]; omega), Option.bind_some, if_pos rfl]
          exact second K (by omega)
        · rw [if_neg h3]
          exact bad (cutS (l0.drop 4) n) h3

end Go.Proofs.Ytclojfnmknknjaa.Pure
