import Derived.Test.YtoalknneifpehaaDoorQ02
import Derived.Test.YtoalknneifpehaaDoorS2
namespace Go.Proofs.YtoalknneifpehaaDoor.Hand
open Go.RowKit Go.Proofs.YtoalknneifpehaaDoor.GB Go.Proofs.YtoalknneifpehaaDoorW.PrintWords Go.Proofs.YtoalknneifpehaaDoorW.PrintLast
set_option linter.unusedVariables false
set_option linter.unusedSimpArgs false

theorem bytesOf_str (xs : List Int) (h : byteOk xs = true) : bytesOf (strOfNums xs) = xs := by
  unfold bytesOf
  rw [strOfNums_data, List.map_map]
  conv => rhs; rw [← List.map_id xs]
  apply List.map_congr_left
  intro x hx
  have hb := byteOk_mem h hx
  simp only [Function.comp_apply, id]
  rw [UInt8.toNat_ofNat', Nat.mod_eq_of_lt (by omega)]
  omega
theorem bytesOf_ok (s : ByteArray) : byteOk (bytesOf s) = true := by
  unfold byteOk bytesOf
  rw [List.all_eq_true]
  intro x hx
  obtain ⟨b, _, rfl⟩ := List.mem_map.1 hx
  have := b.toNat_lt
  simp
  omega
theorem str_bytesOf (s : ByteArray) : strOfNums (bytesOf s) = s := by
  unfold bytesOf
  apply ByteArray.ext
  apply Array.toList_inj.1
  rw [strOfNums_data, List.map_map]
  conv => rhs; rw [← List.map_id s.data.toList]
  apply List.map_congr_left
  intro b _
  simp
theorem size_bytesOf (s : ByteArray) : (bytesOf s).length = s.size := bytesOf_length s
theorem sput_f (s : ByteArray) (h : s.size ≤ 140737488355300) : strings_Put.f s = some (putL (bytesOf s)) := by
  unfold strings_Put.f; exact put_f _ (by rw [bytesOf_length]; exact h)
theorem bytesOf_app (s t : ByteArray) : bytesOf (s ++ t) = bytesOf s ++ bytesOf t := by
  unfold bytesOf; rw [← List.map_append]; congr 1
theorem brk_iff (s : ByteArray) (odd : List Int) : brk s odd = true ↔ (∃ c ∈ odd, c ∈ bytesOf s) ∨ s.size = 0 := by
  unfold brk hasB
  rw [Bool.or_eq_true, List.any_eq_true]
  have e : s.data.toList.isEmpty = true ↔ s.size = 0 := by
    rw [List.isEmpty_iff, ← List.length_eq_zero_iff, data_length]
  rw [e]
  constructor
  · rintro (⟨c, h1, h2⟩ | h)
    · exact .inl ⟨c, h1, List.contains_iff_mem.1 h2⟩
    · exact .inr h
  · rintro (⟨c, h1, h2⟩ | h)
    · exact .inl ⟨c, h1, List.contains_iff_mem.2 h2⟩
    · exact .inr h
theorem isS_cases (s : ByteArray) (most : Int) (odd : List Int) : (isS s most odd = 22 ∧ brk s odd = true) ∨ (isS s most odd = 63 ∧ brk s odd = false ∧ most < s.size) ∨ (isS s most odd = 0 ∧ brk s odd = false ∧ (s.size : Int) ≤ most) := by
  unfold isS
  by_cases h : brk s odd = true
  · rw [if_pos h]; exact .inl ⟨rfl, h⟩
  · rw [if_neg h]
    rw [Bool.not_eq_true] at h
    by_cases hm : most < (s.size : Int)
    · rw [if_pos hm]; exact .inr (.inl ⟨rfl, h, hm⟩)
    · rw [if_neg hm]; exact .inr (.inr ⟨rfl, h, by omega⟩)
end Go.Proofs.YtoalknneifpehaaDoor.Hand
