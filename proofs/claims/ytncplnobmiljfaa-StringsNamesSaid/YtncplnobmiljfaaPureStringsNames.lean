/- Each name is a path; a path without slashes, of at most 255 bytes, is a name; with a slash it is none. For every text. No condition. -/
import Derived.Test.YtncplnobmiljfaaG32
import Derived.Test.YtncplnobmiljfaaQ03
namespace Go.Proofs.Ytncplnobmiljfaa.Pure
open Go.RowKit Go.Proofs.Ytncplnobmiljfaa.G3 Go.Proofs.Ytncplnobmiljfaa.GB Go.Proofs.Ytncplnobmiljfaa.Hand Go.Proofs.YtncplnobmiljfaaW.PrintWords Go.Proofs.YtncplnobmiljfaaW.PrintLast

theorem bt_get (s : ByteArray) (i : Nat) (h : i < s.size) : bt s (i : Int) = (bytesOf s)[i]'(by rw [bytesOf_length]; exact h) := by
  rw [bytesOf_get s i h]
  unfold bt
  simp only [Int.toNat_natCast]
  rw [dif_pos h]

/-- What stands behind the loop, slash or not. -/
theorem names_end (s : ByteArray) (hs : s.size ≤ 1048576) (sl : Bool) (hsl : sl = true ↔ (47 : Int) ∈ bytesOf s) :
    ((strings_Name.f s).bind fun t130 => ((strings_Path.f s).bind fun t131 => (if t130 = 0 then (if t131 = 0 then (if sl = true then (if t130 = 22 then (some true) else (some false)) else (some ((t130 == 0) == (decide ((s.size : Int) ≤ 255))))) else (some false)) else (if sl = true then (if t130 = 22 then (some true) else (some false)) else (if t131 = 0 then (some ((t130 == 0) == (decide ((s.size : Int) ≤ 255)))) else (some true)))))) = some true := by
  rw [name_f s (by omega), path_f s (by omega)]
  simp only [Option.bind_some]
  have hn := brk_iff s [0, 47]
  have hp := brk_iff s [0]
  have key : brk s [0, 47] = true ↔ brk s [0] = true ∨ sl = true := by
    rw [hn, hp, hsl]
    simp only [List.mem_cons, List.not_mem_nil, or_false, exists_eq_or_imp, exists_eq_left]
    constructor
    · rintro ((h | h) | h) <;> simp [h]
    · rintro ((h | h) | h) <;> simp [h]
  rcases isS_cases s 255 [0, 47] with ⟨e1, h1⟩ | ⟨e1, h1, h1'⟩ | ⟨e1, h1, h1'⟩ <;> rcases isS_cases s 1024 [0] with ⟨e2, h2⟩ | ⟨e2, h2, h2'⟩ | ⟨e2, h2, h2'⟩ <;> rw [e1, e2]
  · generalize decide ((s.size : Int) ≤ 255) = b
    cases sl <;> cases b <;> decide
  · cases sl
    · simp [h1, h2] at key
    · generalize decide ((s.size : Int) ≤ 255) = b
      cases b <;> decide
  · cases sl
    · simp [h1, h2] at key
    · generalize decide ((s.size : Int) ≤ 255) = b
      cases b <;> decide
  · simp [h1, h2] at key
  · cases sl
    · generalize decide ((s.size : Int) ≤ 255) = b
      cases b <;> decide
    · simp [h1, h2] at key
  · cases sl
    · have : decide ((s.size : Int) ≤ 255) = false := by simp; omega
      rw [this]; decide
    · simp [h1, h2] at key
  · simp [h1, h2] at key
  · omega
  · cases sl
    · have : decide ((s.size : Int) ≤ 255) = true := by simp; omega
      rw [this]; decide
    · simp [h1, h2] at key

theorem names_l0 (s : ByteArray) (hs : s.size ≤ 1048576) (d : Nat) : ∀ (k i : Nat) (sl : Bool), s.size - i = d → i ≤ s.size → d < k → (sl = true ↔ (47 : Int) ∈ (bytesOf s).take i) →
    wharfingerlaw03_StringsNames.l0 k s sl (i : Int) = some true := by
  induction d with
  | zero =>
    intro k i sl hd hi hk hsl
    obtain ⟨k, rfl⟩ : ∃ m, k = m + 1 := ⟨k - 1, by omega⟩
    simp only [wharfingerlaw03_StringsNames.l0]
    rw [if_neg (by omega)]
    rw [List.take_of_length_le (by rw [bytesOf_length]; omega)] at hsl
    exact names_end s hs sl hsl
  | succ d ih =>
    intro k i sl hd hi hk hsl
    obtain ⟨k, rfl⟩ : ∃ m, k = m + 1 := ⟨k - 1, by omega⟩
    have hlt : i < s.size := by omega
    have hlb : i < (bytesOf s).length := by rw [bytesOf_length]; exact hlt
    have hts := List.take_succ_eq_append_getElem hlb
    simp only [wharfingerlaw03_StringsNames.l0]
    rw [if_pos (by omega), wrap_in (x := (i : Int) + 1) (by omega) (by omega), show ((i : Int) + 1) = ((i + 1 : Nat) : Int) by omega]
    cases sl with
    | true =>
      rw [if_pos rfl]
      refine ih k (i + 1) true (by omega) (by omega) (by omega) ?_
      rw [hts]
      exact ⟨fun _ => List.mem_append_left _ (hsl.1 rfl), fun _ => rfl⟩
    | false =>
      rw [if_neg (by simp), if_pos (by omega), bt_get s i hlt]
      refine ih k (i + 1) _ (by omega) (by omega) (by omega) ?_
      rw [hts, List.mem_append, ← hsl]
      simp only [Bool.false_eq_true, false_or, List.mem_singleton, beq_iff_eq]
      exact eq_comm

theorem StringsNames : wharfingerlaw03_StringsNames.Pure := by
  intro s hs
  obtain ⟨K, hK⟩ : ∃ K, K = s.size + 20 := ⟨_, rfl⟩
  refine ⟨K + 1 + 1, ?_⟩
  unfold wharfingerlaw03_StringsNames.f
  rw [show K + 1 + 1 = K + 2 from rfl, beyond1 K _ (by omega) (by omega)]
  simp only [wharfingerlaw03_alive.f, Option.bind_some, if_true]
  by_cases hb : (s.size : Int) > 1048576
  · rw [decide_eq_true hb]
    simp only [wharfingerlaw03_StringsNames.j0, wharfingerlaw03_alive.f]; rfl
  · rw [decide_eq_false hb]
    simp only [wharfingerlaw03_StringsNames.j0, Bool.false_eq_true, if_false]
    exact names_l0 s (by omega) s.size (K + 1) 0 false (by omega) (by omega) (by omega) (by simp)

end Go.Proofs.Ytncplnobmiljfaa.Pure
