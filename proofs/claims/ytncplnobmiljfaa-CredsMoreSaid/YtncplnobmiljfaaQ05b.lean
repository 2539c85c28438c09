import Derived.Test.YtncplnobmiljfaaQ05
namespace Go.Proofs.Ytncplnobmiljfaa.Hand
open Go.RowKit Go.Proofs.Ytncplnobmiljfaa.GB Go.Proofs.Ytncplnobmiljfaa.GC Go.Proofs.YtncplnobmiljfaaW.PrintWords Go.Proofs.YtncplnobmiljfaaW.PrintLast
set_option linter.unusedVariables false
set_option linter.unusedSimpArgs false

/-! ### What stands there is read -/
theorem take_be (x : Int) (rest : List Int) (i : Nat) (h : 4 ≤ i) : (beL x 4 ++ rest).take i = beL x 4 ++ rest.take (i - 4) := by
  rw [List.take_append, beL_length, List.take_of_length_le (by rw [beL_length]; exact h)]
theorem numG_be (x : Int) (rest : List Int) (h0 : 0 ≤ x) (h1 : x < 4294967296) : numG (beL x 4 ++ rest) 0 = (x, rest, 0) := by
  have hd := List.drop_left (l₁ := beL x 4) (l₂ := rest)
  rw [beL_length] at hd
  unfold numG
  rw [if_pos rfl, if_neg (by simp [beL_length]), List.take_append_of_le_length (by rw [beL_length]; omega), List.take_of_length_le (by rw [beL_length]; omega), deB4 x h0 h1, hd]
theorem numG_low {l : List Int} (h : l.length < 4) : numG l 0 = (0, l, 4) := by
  unfold numG; rw [if_pos rfl, if_pos h]
theorem numG_err {e : Int} (l : List Int) (h : e ≠ 0) : numG l e = (0, l, e) := by unfold numG; rw [if_neg h]
theorem grpG_err {e : Int} (h : e ≠ 0) : ∀ (k : Nat) (gs l : List Int), grpG k gs l e = (gs, l, e)
  | 0, _, _ => rfl
  | k + 1, _, _ => by rw [grpG, if_neg h]
theorem strG_put (m : ByteArray) (rest : List Int) (h : m.size ≤ 255) : strG (putL (bytesOf m) ++ rest) 0 = (m, rest, 0) := by
  have hl := bytesOf_length m
  have hp := padI_range (bytesOf m).length
  have hpl := putL_length (bytesOf m)
  unfold strG
  rw [if_pos rfl]
  unfold strings_Get.f
  rw [get_put _ _ _ (by omega) (by omega), Option.map_some]
  dsimp only
  rw [str_bytesOf, show (4 + ((bytesOf m).length : Int) + padI (bytesOf m).length).toNat = (putL (bytesOf m)).length by omega, List.drop_left]
theorem strG_low (m : ByteArray) (i : Nat) (h : m.size ≤ 255) (hi : i < (putL (bytesOf m)).length) : ∃ s l', strG ((putL (bytesOf m)).take i) 0 = (s, l', 4) := by
  have hl := bytesOf_length m
  unfold strG
  rw [if_pos rfl]
  unfold strings_Get.f
  rw [get_put_cut _ _ _ (by omega) (by omega) hi, Option.map_some]
  exact ⟨_, _, rfl⟩
theorem grpG_nums : ∀ (ns gs rest : List Int), (∀ n ∈ ns, 0 ≤ n ∧ n < 4294967296) → grpG ns.length gs (numsL ns ++ rest) 0 = (gs ++ ns, rest, 0)
  | [], gs, rest, _ => by simp [grpG, numsL]
  | n :: ns, gs, rest, h => by
    have hn := h n (List.mem_cons_self ..)
    rw [List.length_cons, grpG, if_pos rfl, numsL, List.append_assoc, numG_be n _ hn.1 hn.2]
    dsimp only
    rw [grpG_nums ns _ rest (fun x hx => h x (List.mem_cons_of_mem _ hx)), List.append_assoc]
    rfl
theorem grpG_low : ∀ (ns gs : List Int) (i : Nat), (∀ n ∈ ns, 0 ≤ n ∧ n < 4294967296) → i < 4 * ns.length → ∃ gs' l', grpG ns.length gs ((numsL ns).take i) 0 = (gs', l', 4)
  | [], gs, i, _, h => absurd h (by simp)
  | n :: ns, gs, i, h, hi => by
    have hn := h n (List.mem_cons_self ..)
    rw [List.length_cons, grpG, if_pos rfl, numsL]
    by_cases h4 : i < 4
    · rw [numG_low (by rw [List.length_take]; omega)]
      dsimp only
      rw [grpG_err (by omega)]
      exact ⟨_, _, rfl⟩
    · rw [take_be n _ i (by omega), numG_be n _ hn.1 hn.2]
      dsimp only
      exact grpG_low ns _ (i - 4) (fun x hx => h x (List.mem_cons_of_mem _ hx)) (by rw [List.length_cons] at hi; omega)

theorem cred_read (s : Int) (m : ByteArray) (u g : Int) (gs rest : List Int) (hs : 0 ≤ s ∧ s < 4294967296) (hu : 0 ≤ u ∧ u < 4294967296) (hg : 0 ≤ g ∧ g < 4294967296) (hgs : ∀ n ∈ gs, 0 ≤ n ∧ n < 4294967296) (hm : m.size ≤ 255) (hl : gs.length ≤ 16) :
    credG (credB s m u g gs ++ rest) = if rest = [] then ⟨s, m, u, g, gs, 0⟩ else ⟨0, ByteArray.empty, 0, 0, [], 5⟩ := by
  unfold credG credB
  simp only [List.append_assoc]
  rw [numG_be s _ hs.1 hs.2]; dsimp only
  rw [strG_put m _ hm]; dsimp only
  rw [numG_be u _ hu.1 hu.2]; dsimp only
  rw [numG_be g _ hg.1 hg.2]; dsimp only
  rw [numG_be (gs.length : Int) _ (by omega) (by omega)]; dsimp only
  rw [show limG (gs.length : Int) 0 = 0 by unfold limG; rw [if_pos rfl, if_neg (by omega)], Int.toNat_natCast, grpG_nums gs [] rest hgs]
  dsimp only
  unfold endG
  rw [if_pos rfl]
  cases rest with
  | nil => simp
  | cons x xs => simp
theorem cred_many (s : Int) (m : ByteArray) (u g : Int) (gs : List Int) (hs : 0 ≤ s ∧ s < 4294967296) (hu : 0 ≤ u ∧ u < 4294967296) (hg : 0 ≤ g ∧ g < 4294967296) (hm : m.size ≤ 255) (hl : 16 < gs.length) (hl2 : gs.length < 4294967296) :
    credG (credB s m u g gs) = ⟨0, ByteArray.empty, 0, 0, [], 3⟩ := by
  unfold credG credB
  rw [numG_be s _ hs.1 hs.2]; dsimp only
  rw [strG_put m _ hm]; dsimp only
  rw [numG_be u _ hu.1 hu.2]; dsimp only
  rw [numG_be g _ hg.1 hg.2]; dsimp only
  rw [numG_be (gs.length : Int) _ (by omega) (by omega)]; dsimp only
  rw [show limG (gs.length : Int) 0 = 3 by unfold limG; rw [if_pos rfl, if_pos (by omega)], grpG_err (by omega)]
  rfl
theorem lim4 (k : Int) : limG k 4 = 4 := rfl
theorem end4 (l : List Int) : endG l 4 = 4 := rfl
theorem cred_cut (s : Int) (m : ByteArray) (u g : Int) (gs : List Int) (i : Nat) (hs : 0 ≤ s ∧ s < 4294967296) (hu : 0 ≤ u ∧ u < 4294967296) (hg : 0 ≤ g ∧ g < 4294967296) (hgs : ∀ n ∈ gs, 0 ≤ n ∧ n < 4294967296) (hm : m.size ≤ 255) (hl : gs.length ≤ 16) (hi : i < (credB s m u g gs).length) :
    (credG ((credB s m u g gs).take i)).e = 4 := by
  have n4 : ∀ l, numG l 4 = (0, l, 4) := fun l => numG_err l (by omega)
  have s4 : ∀ l, strG l 4 = (ByteArray.empty, l, 4) := fun l => strG_else (by omega)
  have g4 : ∀ k gs l, grpG k gs l 4 = (gs, l, 4) := fun k gs l => grpG_err (by omega) k gs l
  rw [credB_length] at hi
  have fin : ∀ (P : Prop) [Decidable P] (a b : CredR), ¬ P → b.e = 4 → (if P then a else b).e = 4 := fun P _ a b hp hb => by rw [if_neg hp]; exact hb
  unfold credG credB
  by_cases h1 : i < 4
  · rw [numG_low (by rw [List.length_take]; omega)]; dsimp only
    rw [s4]; dsimp only; rw [n4]; dsimp only; rw [n4]; dsimp only; rw [n4]; dsimp only; rw [lim4, g4]; dsimp only; rw [end4]; exact fin _ _ _ (by omega) rfl
  · rw [take_be s _ i (by omega), numG_be s _ hs.1 hs.2]; dsimp only
    by_cases h2 : i - 4 < (putL (bytesOf m)).length
    · rw [List.take_append_of_le_length (by omega)]
      obtain ⟨a, b, he⟩ := strG_low m (i - 4) hm h2
      rw [he]; dsimp only; rw [n4]; dsimp only; rw [n4]; dsimp only; rw [n4]; dsimp only; rw [lim4, g4]; dsimp only; rw [end4]; exact fin _ _ _ (by omega) rfl
    · rw [List.take_append, List.take_of_length_le (by omega), strG_put m _ hm]; dsimp only
      obtain ⟨j, hj⟩ : ∃ j, i - 4 - (putL (bytesOf m)).length = j := ⟨_, rfl⟩
      rw [hj]
      by_cases h3 : j < 4
      · rw [numG_low (by rw [List.length_take]; omega)]; dsimp only
        rw [n4]; dsimp only; rw [n4]; dsimp only; rw [lim4, g4]; dsimp only; rw [end4]; exact fin _ _ _ (by omega) rfl
      · rw [take_be u _ j (by omega), numG_be u _ hu.1 hu.2]; dsimp only
        by_cases h5 : j - 4 < 4
        · rw [numG_low (by rw [List.length_take]; omega)]; dsimp only
          rw [n4]; dsimp only; rw [lim4, g4]; dsimp only; rw [end4]; exact fin _ _ _ (by omega) rfl
        · rw [take_be g _ (j - 4) (by omega), numG_be g _ hg.1 hg.2]; dsimp only
          by_cases h6 : j - 4 - 4 < 4
          · rw [numG_low (by rw [List.length_take]; omega)]; dsimp only
            rw [lim4, g4]; dsimp only; rw [end4]; exact fin _ _ _ (by omega) rfl
          · rw [take_be (gs.length : Int) _ (j - 4 - 4) (by omega), numG_be (gs.length : Int) _ (by omega) (by omega)]; dsimp only
            rw [show limG (gs.length : Int) 0 = 0 by unfold limG; rw [if_pos rfl, if_neg (by omega)], Int.toNat_natCast]
            obtain ⟨a, b, he⟩ := grpG_low gs [] (j - 4 - 4 - 4) hgs (by omega)
            rw [he]; dsimp only; rw [end4]; exact fin _ _ _ (by omega) rfl
theorem credB_mod (s : Int) (m : ByteArray) (u g : Int) (gs : List Int) : (credB s m u g gs).length % 4 = 0 := by
  rw [credB_length]; have := putL_mod (bytesOf m); omega
theorem credB_most (s : Int) (m : ByteArray) (u g : Int) (gs : List Int) (hm : m.size ≤ 255) (hl : gs.length ≤ 16) : (credB s m u g gs).length ≤ 400 := by
  rw [credB_length, putL_length, bytesOf_length]; have := padI_nat m.size; omega
theorem byteOk_nums : ∀ ns : List Int, byteOk (numsL ns) = true
  | [] => rfl
  | n :: ns => byteOk_append (byteOk_be4 n) (byteOk_nums ns)
theorem byteOk_putL (xs : List Int) (h : byteOk xs = true) : byteOk (putL xs) = true := by
  unfold putL padded
  refine byteOk_append (byteOk_be4 _) (byteOk_append h ?_)
  unfold byteOk; rw [List.all_eq_true]; intro x hx; rw [List.eq_of_mem_replicate hx]; rfl
theorem byteOk_credB (s : Int) (m : ByteArray) (u g : Int) (gs : List Int) : byteOk (credB s m u g gs) = true :=
  byteOk_append (byteOk_be4 _) (byteOk_append (byteOk_putL _ (bytesOf_ok m)) (byteOk_append (byteOk_be4 _) (byteOk_append (byteOk_be4 _) (byteOk_append (byteOk_be4 _) (byteOk_nums gs)))))

theorem nums_l0 (xs : List Int) (hl : xs.length ≤ 1000000000) : ∀ (m k i : Nat), xs.length - i = m → i ≤ xs.length → m < k → wharfingerlaw01_SameNumbers.l0 k xs xs (i : Int) = some true := by
  intro m
  induction m with
  | zero =>
    intro k i h1 h2 h3
    obtain ⟨k, rfl⟩ : ∃ m, k = m + 1 := ⟨k - 1, by omega⟩
    rw [wharfingerlaw01_SameNumbers.l0, if_neg (by omega)]
  | succ m ih =>
    intro k i h1 h2 h3
    obtain ⟨k, rfl⟩ : ∃ m, k = m + 1 := ⟨k - 1, by omega⟩
    rw [wharfingerlaw01_SameNumbers.l0, if_pos (by omega), if_pos (by omega), if_pos (by omega), if_pos rfl, wrap_in (by omega) (by omega), show ((i : Int) + 1) = ((i + 1 : Nat) : Int) by omega]
    exact ih k (i + 1) (by omega) (by omega) (by omega)
theorem sameCred_self (k : Nat) (u g : Int) (gs : List Int) (hl : gs.length ≤ 1000000000) (hk : gs.length < k) : wharfingerlaw01_SameCred.f k u g gs u g gs = some true := by
  unfold wharfingerlaw01_SameCred.f wharfingerlaw01_SameNumbers.f
  rw [if_pos rfl, if_pos rfl, if_pos rfl]
  have := nums_l0 gs hl gs.length k 0 (by omega) (by omega) hk
  rw [show ((0 : Nat) : Int) = 0 from rfl] at this
  rw [this]
  rfl
theorem index_l0 (xs : List Int) (a : Int) (hl : xs.length ≤ 1000000000) : ∀ (m k i : Nat), xs.length - i = m → i ≤ xs.length → m < k → ∃ j : Int, slices_Index_uint32_uint32.l0 k xs a (xs.length : Int) (i : Int) = some j ∧ decide (j ≥ 0) = decide (a ∈ xs.drop i) := by
  intro m
  induction m with
  | zero =>
    intro k i h1 h2 h3
    obtain ⟨k, rfl⟩ : ∃ m, k = m + 1 := ⟨k - 1, by omega⟩
    rw [slices_Index_uint32_uint32.l0, if_neg (by omega)]
    exact ⟨-1, rfl, by rw [List.drop_of_length_le (by omega)]; simp⟩
  | succ m ih =>
    intro k i h1 h2 h3
    obtain ⟨k, rfl⟩ : ∃ m, k = m + 1 := ⟨k - 1, by omega⟩
    have hi : i < xs.length := by omega
    rw [slices_Index_uint32_uint32.l0, if_pos (by omega), if_pos (by omega), if_pos (by omega), rd_nat xs i hi, List.drop_eq_getElem_cons hi]
    by_cases h : a = xs[i]
    · rw [if_pos h]
      exact ⟨i, rfl, by rw [h, decide_eq_true (show ((i : Int) ≥ 0) by omega), decide_eq_true (List.mem_cons_self ..)]⟩
    · rw [if_neg h, wrap_in (by omega) (by omega), show ((i : Int) + 1) = ((i + 1 : Nat) : Int) by omega]
      obtain ⟨j, h4, h5⟩ := ih k (i + 1) (by omega) (by omega) (by omega)
      refine ⟨j, h4, h5.trans (decide_eq_decide.2 ⟨fun e => List.mem_cons_of_mem _ e, fun e => ?_⟩)⟩
      rcases List.mem_cons.1 e with e | e
      · exact absurd e h
      · exact e
theorem in_f (k : Nat) (u g : Int) (gs : List Int) (a : Int) (hl : gs.length ≤ 1000000000) (hk : gs.length < k) : creds_In.f k u g gs a = some (decide (g = a) || decide (a ∈ gs)) := by
  unfold creds_In.f
  by_cases h : g = a
  · rw [if_pos h, decide_eq_true h]; rfl
  · rw [if_neg h, decide_eq_false h]
    unfold slices_Contains_uint32_uint32.f slices_Index_uint32_uint32.f
    obtain ⟨j, h4, h5⟩ := index_l0 gs a hl gs.length k 0 (by omega) (by omega) hk
    rw [show ((0 : Nat) : Int) = 0 from rfl] at h4
    rw [h4, Option.bind_some, Option.bind_some, h5]
    rfl
end Go.Proofs.Ytncplnobmiljfaa.Hand
