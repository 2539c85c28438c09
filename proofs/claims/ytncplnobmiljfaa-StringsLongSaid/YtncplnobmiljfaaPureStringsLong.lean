/- What is a name at all is one by its length alone: up to 255 bytes; a path up to 1024. For any byte, however often. No condition. -/
import Derived.Test.YtncplnobmiljfaaG33
import Derived.Test.YtncplnobmiljfaaQ03
namespace Go.Proofs.Ytncplnobmiljfaa.Pure
open Go.RowKit Go.Proofs.Ytncplnobmiljfaa.G3 Go.Proofs.Ytncplnobmiljfaa.GB Go.Proofs.Ytncplnobmiljfaa.Hand Go.Proofs.YtncplnobmiljfaaW.PrintWords Go.Proofs.YtncplnobmiljfaaW.PrintLast

theorem rep_ok (n : Nat) (c : Int) (h : 0 ≤ c ∧ c < 256) : byteOk (List.replicate n c) = true := by
  unfold byteOk; rw [List.all_eq_true]; intro x hx; rw [List.eq_of_mem_replicate hx]; simpa using h
theorem rep_is (n : Nat) (c most : Int) (odd : List Int) (h : 0 ≤ c ∧ c < 256) :
    isS (strOfNums (List.replicate n c)) most odd = if n = 0 ∨ c ∈ odd then 22 else if most < n then 63 else 0 := by
  have hsz : (strOfNums (List.replicate n c)).size = n := by rw [strOfNums_size, List.length_replicate]
  have hb := brk_iff (strOfNums (List.replicate n c)) odd
  rw [bytesOf_str _ (rep_ok n c h), hsz] at hb
  unfold isS
  rw [hsz]
  by_cases hc : n = 0 ∨ c ∈ odd
  · rw [if_pos hc, if_pos]
    rw [hb]
    rcases Nat.eq_zero_or_pos n with h0 | h0
    · exact .inr h0
    · rcases hc with hc | hc
      · omega
      · exact .inl ⟨c, hc, by rw [List.mem_replicate]; exact ⟨by omega, rfl⟩⟩
  · rw [if_neg hc, if_neg]
    rw [hb]
    rintro (⟨d, h1, h2⟩ | h0)
    · rw [List.mem_replicate] at h2
      exact hc (.inr (h2.2 ▸ h1))
    · exact hc (.inl h0)

theorem long_end (n : Nat) (c : Int) (h : 0 ≤ c ∧ c < 256) (hn : n < 2000) (k : Nat) :
    (if (n : Int) > 255 then (wharfingerlaw03_StringsLong.j1 (k + 1 + 1 + 1 + 1) c n (strOfNums (List.replicate n c)) 63 0) else (wharfingerlaw03_StringsLong.j1 (k + 1 + 1 + 1 + 1) c n (strOfNums (List.replicate n c)) 0 0)) = some true := by
  have hsz : (strOfNums (List.replicate n c)).size = n := by rw [strOfNums_size, List.length_replicate]
  have e1 := name_f (strOfNums (List.replicate n c)) (by omega)
  have e2 := path_f (strOfNums (List.replicate n c)) (by omega)
  rw [rep_is n c 255 [0, 47] h] at e1
  rw [rep_is n c 1024 [0] h] at e2
  generalize strOfNums (List.replicate n c) = s at e1 e2 ⊢
  simp only [wharfingerlaw03_StringsLong.j1, wharfingerlaw03_StringsLong.j2, wharfingerlaw03_StringsLong.j3, wharfingerlaw03_StringsLong.j4, wharfingerlaw03_alive.f, e1, e2, Option.bind_some, if_true]
  by_cases h0 : n = 0
  · subst h0
    by_cases hc : c = 47 <;> simp [hc]
  · have h0' : ¬ ((n : Int) = 0) := by omega
    by_cases hc0 : c = 0
    · subst hc0
      by_cases h1 : (n : Int) > 255 <;> by_cases h2 : (n : Int) > 1024 <;> simp [h0, h0', h1, h2]
    · by_cases hc : c = 47
      · subst hc
        by_cases h1 : (n : Int) > 255 <;> by_cases h2 : (n : Int) > 1024 <;> simp [h0, h0', h1, h2] <;> omega
      · by_cases h1 : (n : Int) > 255 <;> by_cases h2 : (n : Int) > 1024 <;> simp [h0, h0', h1, h2, hc, hc0] <;> omega

theorem long_l0 (n : Nat) (c : Int) (h : 0 ≤ c ∧ c < 256) (hn : n < 2000) (d : Nat) : ∀ (k i : Nat), n - i = d → i ≤ n → d + 6 < k →
    wharfingerlaw03_StringsLong.l0 k c n (List.replicate i c ++ List.replicate (n - i) 0) (i : Int) = some true := by
  induction d with
  | zero =>
    intro k i hd hi hk
    obtain ⟨k, rfl⟩ : ∃ m, k = m + 1 + 1 + 1 + 1 + 1 := ⟨k - 5, by omega⟩
    simp only [wharfingerlaw03_StringsLong.l0]
    rw [if_neg (by omega), show n - i = 0 by omega, List.replicate_zero, List.append_nil, show i = n by omega]
    exact long_end n c h hn k
  | succ d ih =>
    intro k i hd hi hk
    obtain ⟨k, rfl⟩ : ∃ m, k = m + 1 := ⟨k - 1, by omega⟩
    simp only [wharfingerlaw03_StringsLong.l0]
    rw [if_pos (by omega), if_pos (by omega), if_pos (by rw [List.length_append, List.length_replicate, List.length_replicate]; omega), wrap_in (x := (i : Int) + 1) (by omega) (by omega), show ((i : Int) + 1) = ((i + 1 : Nat) : Int) by omega, Int.toNat_natCast]
    have e : (List.replicate i c ++ List.replicate (n - i) 0).set i c = List.replicate (i + 1) c ++ List.replicate (n - (i + 1)) 0 := by
      rw [List.set_append_right _ _ (by rw [List.length_replicate]; omega), List.length_replicate, Nat.sub_self, show n - i = (n - (i + 1)) + 1 by omega, List.replicate_succ, List.set_cons_zero, List.replicate_succ', List.append_assoc]
      rfl
    rw [e]
    exact ih k (i + 1) (by omega) (by omega) (by omega)

theorem StringsLong : wharfingerlaw03_StringsLong.Pure := by
  intro c a1 wc wa
  have hc := wf_u8 wc
  have ha := wf_u16 wa
  refine ⟨3000, ?_⟩
  unfold wharfingerlaw03_StringsLong.f
  have hr : 0 ≤ Int.tmod a1 2000 ∧ Int.tmod a1 2000 < 2000 := by
    rw [Int.tmod_eq_emod_of_nonneg ha.1]
    exact ⟨Int.emod_nonneg _ (by omega), Int.emod_lt_of_pos _ (by omega)⟩
  generalize Int.tmod a1 2000 = q at hr ⊢
  obtain ⟨n, rfl⟩ := Int.eq_ofNat_of_zero_le hr.1
  rw [wrap_in (by omega) (by omega), if_pos (by omega), Int.toNat_natCast, if_pos (by omega)]
  have := long_l0 n c hc (by omega) n 3000 0 (by omega) (by omega) (by omega)
  simpa using this

end Go.Proofs.Ytncplnobmiljfaa.Pure
