/- A text that may not be may not be within another one; one byte 0 spoils a name and a path. For any two texts. No condition. -/
import Derived.Test.YtncplnobmiljfaaG32
import Derived.Test.YtncplnobmiljfaaQ03
namespace Go.Proofs.Ytncplnobmiljfaa.Pure
open Go.RowKit Go.Proofs.Ytncplnobmiljfaa.G3 Go.Proofs.Ytncplnobmiljfaa.GB Go.Proofs.Ytncplnobmiljfaa.Hand Go.Proofs.YtncplnobmiljfaaW.PrintWords Go.Proofs.YtncplnobmiljfaaW.PrintLast

theorem isS_22 (s : ByteArray) (most : Int) (odd : List Int) (h : brk s odd = true) : isS s most odd = 22 := by unfold isS; rw [if_pos h]
theorem StringsBytes : wharfingerlaw03_StringsBytes.Pure := by
  intro s t hs ht
  obtain ⟨K, hK⟩ : ∃ K, K = 20 := ⟨_, rfl⟩
  refine ⟨K + 1 + 1 + 1, ?_⟩
  unfold wharfingerlaw03_StringsBytes.f
  rw [show K + 1 + 1 + 1 = K + 3 from rfl, beyond2 K _ _ (by omega) (by omega) (by omega)]
  simp only [wharfingerlaw03_alive.f, Option.bind_some, if_true]
  by_cases hb : (s.size : Int) + t.size > 1048576
  · rw [decide_eq_true hb]
    simp only [wharfingerlaw03_StringsBytes.j0, wharfingerlaw03_alive.f]; rfl
  · rw [decide_eq_false hb]
    simp only [wharfingerlaw03_StringsBytes.j0, Bool.false_eq_true, if_false]
    have z1 : ((s ++ (⟨#[0]⟩ : ByteArray)) ++ t).size = s.size + 1 + t.size := by rw [← bytesOf_length, bytesOf_app, bytesOf_app, List.length_append, List.length_append, bytesOf_length, bytesOf_length, bytesOf_length]; rfl
    have z2 : ((s ++ (⟨#[47]⟩ : ByteArray)) ++ t).size = s.size + 1 + t.size := by rw [← bytesOf_length, bytesOf_app, bytesOf_app, List.length_append, List.length_append, bytesOf_length, bytesOf_length, bytesOf_length]; rfl
    have z3 : (s ++ (⟨#[0]⟩ : ByteArray)).size = s.size + 1 := by rw [← bytesOf_length, bytesOf_app, List.length_append, bytesOf_length]; rfl
    have z4 : (s ++ (⟨#[47]⟩ : ByteArray)).size = s.size + 1 := by rw [← bytesOf_length, bytesOf_app, List.length_append, bytesOf_length]; rfl
    have m1 : (0 : Int) ∈ bytesOf ((s ++ (⟨#[0]⟩ : ByteArray)) ++ t) := by
      rw [bytesOf_app, bytesOf_app]
      exact List.mem_append_left _ (List.mem_append_right _ (by decide))
    have m2 : (47 : Int) ∈ bytesOf ((s ++ (⟨#[47]⟩ : ByteArray)) ++ t) := by
      rw [bytesOf_app, bytesOf_app]
      exact List.mem_append_left _ (List.mem_append_right _ (by decide))
    have n1 : isS ((s ++ (⟨#[0]⟩ : ByteArray)) ++ t) 255 [0, 47] = 22 := isS_22 _ _ _ ((brk_iff _ _).2 (.inl ⟨0, by simp, m1⟩))
    have n2 : isS ((s ++ (⟨#[0]⟩ : ByteArray)) ++ t) 1024 [0] = 22 := isS_22 _ _ _ ((brk_iff _ _).2 (.inl ⟨0, by simp, m1⟩))
    have n3 : isS ((s ++ (⟨#[47]⟩ : ByteArray)) ++ t) 255 [0, 47] = 22 := isS_22 _ _ _ ((brk_iff _ _).2 (.inl ⟨47, by simp, m2⟩))
    rw [if_pos (by omega), if_pos (by omega), name_f _ (by omega), n1, Option.bind_some, if_pos rfl, path_f _ (by omega), n2, Option.bind_some, if_pos rfl, if_pos (by omega), name_f _ (by omega), n3, Option.bind_some]
    simp only [wharfingerlaw03_StringsBytes.j1, show ((22 : Int) != 22) = false from rfl, Bool.false_eq_true, if_false]
    rw [path_f s (by omega), Option.bind_some, if_pos (by omega), if_pos (by omega), path_f _ (by omega), Option.bind_some]
    by_cases ha : isS s 1024 [0] = 22
    · rw [if_pos ha]
      by_cases he : s.toList = []
      · rw [if_pos he]
      · rw [if_neg he]
        have hb1 : brk s [0] = true := by
          rcases isS_cases s 1024 [0] with ⟨_, h⟩ | ⟨e, _⟩ | ⟨e, _⟩
          · exact h
          · omega
          · omega
        have n4 : isS ((s ++ (⟨#[47]⟩ : ByteArray)) ++ t) 1024 [0] = 22 := by
          apply isS_22
          rw [brk_iff] at hb1 ⊢
          rcases hb1 with ⟨c, h1, h2⟩ | h
          · refine .inl ⟨c, h1, ?_⟩
            rw [bytesOf_app, bytesOf_app]
            exact List.mem_append_left _ (List.mem_append_left _ h2)
          · exfalso
            apply he
            rw [ByteArray.toList_eq]
            apply List.eq_nil_of_length_eq_zero
            rw [data_length]; exact h
        rw [n4]; rfl
    · rw [if_neg ha]

end Go.Proofs.Ytncplnobmiljfaa.Pure
