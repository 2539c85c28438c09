import Derived.Test.YtoalknneifpehaaDoorQ0
namespace Go.Proofs.YtoalknneifpehaaDoor.Hand
open Go.RowKit Go.Proofs.YtoalknneifpehaaDoor.GB Go.Proofs.YtoalknneifpehaaDoorW.PrintWords Go.Proofs.YtoalknneifpehaaDoorW.PrintLast
set_option linter.unusedVariables false
set_option linter.unusedSimpArgs false

/-- What opaque.Put answers. -/
def putL (xs : List Int) : List Int := beL xs.length 4 ++ padded xs
theorem beL4 (n : Int) : beL n 4 = [n / 16777216 % 256, n / 65536 % 256, n / 256 % 256, n % 256] := by
  simp [beL, List.range, List.range.loop]
theorem deB4 (n : Int) (h0 : 0 ≤ n) (h1 : n < 4294967296) : deB (beL n 4) = n := by
  rw [beL4]; simp only [deB, List.foldl_cons, List.foldl_nil]; omega
theorem byteOk_be4 (n : Int) : byteOk (beL n 4) = true := by
  rw [beL4]; simp only [byteOk, List.all_cons, List.all_nil, Bool.and_true, Bool.and_eq_true, decide_eq_true_eq]; omega
theorem putL_length (xs : List Int) : (putL xs).length = 4 + xs.length + (padI xs.length).toNat := by simp [putL, beL_length, padded_length]; omega
theorem put_f (xs : List Int) (h : xs.length ≤ 140737488355300) : opaque_Put.f xs = some (putL xs) := by unfold opaque_Put.f; rw [if_pos h]; rfl
theorem putFixed_f (xs : List Int) (h : xs.length ≤ 140737488355300) : opaque_PutFixed.f xs = some (padded xs) := by unfold opaque_PutFixed.f; rw [if_pos (by omega)]
theorem padI_mod (n : Nat) : (n + (padI n).toNat) % 4 = 0 := by rw [padI_nat]; omega
theorem putL_mod (xs : List Int) : (putL xs).length % 4 = 0 := by rw [putL_length]; have := padI_mod xs.length; omega

theorem drop_take_app (xs more : List Int) (p : Nat) : ((xs ++ List.replicate p (0 : Int) ++ more).drop xs.length).take p = List.replicate p 0 := by
  rw [List.append_assoc, List.drop_left]
  rw [List.take_append_of_le_length (by simp), List.take_of_length_le (by simp)]
theorem cutS_padded (xs more : List Int) : cutS (padded xs ++ more) xs.length = 0 := by
  have hp := padI_range xs.length
  unfold cutS
  rw [if_neg (by rw [List.length_append, padded_length]; omega), if_pos]
  unfold padded
  rw [drop_take_app]
  simp
theorem cutS_short (xs : List Int) (n : Nat) (h : xs.length < n + (padI n).toNat) : cutS xs n = 4 := by
  have hp := padI_range n
  unfold cutS; rw [if_pos (by omega)]

theorem put_take4 (xs more : List Int) : (putL xs ++ more).take 4 = beL xs.length 4 := by
  unfold putL
  rw [List.append_assoc, List.take_append_of_le_length (by rw [beL_length]; omega), List.take_of_length_le (by rw [beL_length]; omega)]
theorem put_drop4 (xs more : List Int) : (putL xs ++ more).drop 4 = padded xs ++ more := by
  unfold putL
  rw [List.append_assoc]
  have := List.drop_left (l₁ := beL (xs.length : Int) 4) (l₂ := padded xs ++ more)
  rwa [beL_length] at this
theorem get_put (xs more : List Int) (most : Int) (hx : xs.length < 4294967296) (hm : (xs.length : Int) ≤ most) :
    opaque_Get.f (putL xs ++ more) most = some (xs, 4 + (xs.length : Int) + padI xs.length, 0) := by
  unfold opaque_Get.f
  rw [put_take4, put_drop4, if_pos (byteOk_be4 _), deB4 _ (by omega) (by omega), if_neg (by rw [List.length_append, putL_length]; omega), if_neg (by omega)]
  rw [Int.toNat_natCast, cutS_padded, if_pos rfl]
  congr 2
  unfold padded
  rw [List.append_assoc, List.take_left]
theorem get_put_limit (xs more : List Int) (most : Int) (hx : xs.length < 4294967296) (hm : most < xs.length) :
    opaque_Get.f (putL xs ++ more) most = some ([], 0, 3) := by
  unfold opaque_Get.f
  rw [put_take4, if_pos (byteOk_be4 _), deB4 _ (by omega) (by omega), if_neg (by rw [List.length_append, putL_length]; omega), if_pos (by omega)]
theorem byteOk_append {xs ys : List Int} (h : byteOk xs = true) (k : byteOk ys = true) : byteOk (xs ++ ys) = true := by
  unfold byteOk at *; rw [List.all_append, h, k]; rfl
theorem get_put_cut (xs : List Int) (c : Nat) (most : Int) (hx : xs.length < 4294967296) (hm : (xs.length : Int) ≤ most) (hc : c < (putL xs).length) :
    opaque_Get.f ((putL xs).take c) most = some ([], 0, 4) := by
  unfold opaque_Get.f
  have h0 := put_take4 xs []
  rw [List.append_nil] at h0
  have hb : byteOk (((putL xs).take c).take 4) = true := by
    rw [List.take_take, Nat.min_comm, ← List.take_take, h0]
    exact byteOk_take (byteOk_be4 _) c
  rw [if_pos hb]
  by_cases h4 : ((putL xs).take c).length < 4
  · rw [if_pos h4]
  · rw [if_neg h4]
    rw [List.length_take] at h4
    rw [List.take_take, Nat.min_eq_left (by omega), h0, deB4 _ (by omega) (by omega), if_neg (by omega), Int.toNat_natCast]
    have hs : cutS (((putL xs).take c).drop 4) xs.length = 4 := by
      apply cutS_short
      rw [List.length_drop, List.length_take]
      rw [putL_length] at hc ⊢
      omega
    rw [hs, if_neg (by omega)]
/-- What cut lets through is padded with noughts. -/
theorem cut_padded (xs : List Int) (n : Nat) (h : cutS xs n = 0) : n + (padI n).toNat ≤ xs.length ∧ padded (xs.take n) = xs.take (n + (padI n).toNat) := by
  have hp := padI_range n
  unfold cutS at h
  by_cases h0 : (xs.length : Int) < n + padI n
  · rw [if_pos h0] at h; omega
  · rw [if_neg h0] at h
    have hle : n + (padI n).toNat ≤ xs.length := by omega
    refine ⟨hle, ?_⟩
    by_cases h1 : ((xs.drop n).take (padI n).toNat).all (· == 0) = true
    · have hlen : (xs.take n).length = n := by rw [List.length_take]; omega
      unfold padded
      rw [hlen, List.take_add]
      congr 1
      apply List.ext_getElem
      · rw [List.length_replicate, List.length_take, List.length_drop]; omega
      · intro i h2 h3
        rw [List.all_eq_true] at h1
        have := h1 _ (List.getElem_mem h3)
        simp at this
        simpa using this.symm
    · rw [if_neg h1] at h; omega

theorem be4_de (l : List Int) (h : l.length = 4) (hb : byteOk l = true) : beL (deB l) 4 = l := by
  match l, h with
  | [a, b, c, d], _ =>
    simp only [byteOk, List.all_cons, List.all_nil, Bool.and_true, Bool.and_eq_true, decide_eq_true_eq] at hb
    rw [beL4]
    simp only [deB, List.foldl_cons, List.foldl_nil]
    obtain ⟨⟨_, _⟩, ⟨_, _⟩, ⟨_, _⟩, _, _⟩ := hb
    congr 1
    · omega
    · congr 1
      · omega
      · congr 1
        · omega
        · congr 1
          omega

theorem byteOk_drop {xs : List Int} (h : byteOk xs = true) (k : Nat) : byteOk (xs.drop k) = true := by
  unfold byteOk at h ⊢; rw [List.all_eq_true] at h ⊢; exact fun x hx => h x (List.mem_of_mem_drop hx)
/-- What opaque.Get answers of any bytes: an error and nothing; or bytes that are put as those that it took. -/
theorem get_again (l0 : List Int) (most : Int) (hb : byteOk l0 = true) :
    (∃ e : Int, e ≠ 0 ∧ opaque_Get.f l0 most = some ([], 0, e)) ∨
    (∃ (xs : List Int) (n : Nat), opaque_Get.f l0 most = some (xs, (n : Int), 0) ∧ n ≤ l0.length ∧ (xs.length : Int) ≤ most ∧ putL xs = l0.take n ∧ byteOk xs = true ∧ xs.length < 4294967296) := by
  unfold opaque_Get.f
  rw [if_pos (byteOk_take hb 4)]
  by_cases h4 : l0.length < 4
  · rw [if_pos h4]; exact .inl ⟨4, by omega, rfl⟩
  · rw [if_neg h4]
    have hdr := deB_range 4 (l0.take 4) (by rw [List.length_take]; omega) (byteOk_take hb 4)
    have hbe := be4_de (l0.take 4) (by rw [List.length_take]; omega) (byteOk_take hb 4)
    obtain ⟨n, hn⟩ := Int.eq_ofNat_of_zero_le hdr.1
    rw [hn] at hbe hdr ⊢
    rw [Int.toNat_natCast]
    by_cases h5 : most < (n : Int)
    · rw [if_pos h5]; exact .inl ⟨3, by omega, rfl⟩
    · rw [if_neg h5]
      by_cases h3 : cutS (l0.drop 4) n = 0
      · rw [if_pos h3]
        have hc := cut_padded (l0.drop 4) n h3
        have hp := padI_range n
        have hdl : (l0.drop 4).length = l0.length - 4 := List.length_drop
        have htl : ((l0.drop 4).take n).length = n := by rw [List.length_take]; omega
        refine .inr ⟨(l0.drop 4).take n, 4 + n + (padI n).toNat, ?_, by omega, by rw [htl]; omega, ?_, byteOk_take (byteOk_drop hb 4) n, by rw [htl]; omega⟩
        · rw [show ((4 + n + (padI n).toNat : Nat) : Int) = 4 + (n : Int) + padI n by omega]
        · unfold putL
          rw [htl, hbe, hc.2, show 4 + n + (padI n).toNat = 4 + (n + (padI n).toNat) by omega]
          exact List.take_add.symm
      · rw [if_neg h3]; exact .inl ⟨_, h3, rfl⟩
end Go.Proofs.YtoalknneifpehaaDoor.Hand
