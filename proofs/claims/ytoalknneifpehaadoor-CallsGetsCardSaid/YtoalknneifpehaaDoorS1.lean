import Derived.Test.YtoalknneifpehaaDoorH7
import Derived.Laws.EntriesVeiled
namespace Go.Proofs.YtoalknneifpehaaDoor.Hand
open Go.RowKit Go.Proofs.YtoalknneifpehaaDoorW.PrintWords Go.Proofs.YtoalknneifpehaaDoorW.PrintLast Go.Proofs.YtoalknneifpehaaDoorW.PrintMore
set_option linter.unusedVariables false
set_option linter.unusedSimpArgs false

/-- Has a text such a byte? -/
def hasB (s : ByteArray) (c : Int) : Bool := (bytesOf s).contains c
/-- Has a text one of such bytes, or is it empty? -/
def brk (s : ByteArray) (odd : List Int) : Bool := odd.any (hasB s) || s.data.toList.isEmpty

theorem bytesOf_get (s : ByteArray) (i : Nat) (h : i < s.size) : (bytesOf s)[i]'(by rw [bytesOf_length]; exact h) = (s[i].toNat : Int) := by
  simp [bytesOf]; rfl

/-- What a text is, by such rules. -/
def isS (s : ByteArray) (most : Int) (odd : List Int) : Int := if brk s odd = true then 22 else if most < (s.size : Int) then 63 else 0

theorem cell_at (W : World) (v : Value) (t : TypeId) (B : Nat) (hB : B = W.heap.size) : (W.alloc (.cells #[v] t)).cell? ⟨B, 0, none⟩ = some v := by
  subst hB; exact (blk_cell (heap_alloc_new W (.cells #[v] t)) 0).trans rfl
theorem lit_reads (W : World) (xs : List Int) (cs : Array Value) (fr : Nat × Nat) (hcs : cs = (nums .u8 xs).toArray) (hl : xs.length ≤ 9223372036854775807) :
    RB (W.alloc (.cells cs 5 fr)) (some ⟨W.heap.size, 0, none⟩) xs := by
  subst hcs
  refine Kd.C_of_reads (d := (0 : Int)) (h1 := fun _ => rfl) ⟨rfl, hl, fun _ => ⟨_, rfl, fun j hj => ?_⟩⟩
  have h := cell_of_row (W.alloc (.cells (nums .u8 xs).toArray 5 fr)) W.heap.size j (nums .u8 xs).toArray 5 fr (heap_alloc_new W _)
  rw [add_plain, h]
  simp [nums, List.getD_eq_getElem?_getD, List.getElem?_eq_getElem hj]

end Go.Proofs.YtoalknneifpehaaDoor.Hand
