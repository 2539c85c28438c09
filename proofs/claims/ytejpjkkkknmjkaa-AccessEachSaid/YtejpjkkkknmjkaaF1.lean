import Derived.Test.YtejpjkkkknmjkaaEX
import Derived.Test.YtejpjkkkknmjkaaRows
import Derived.Below
import Derived.KernelRfl
/- Over the engine, first text: what the runs are over; trees as values. -/
namespace Go.Proofs.Ytejpjkkkknmjkaa.Ab
open Go Go.RowKit

def keepT : List (Nat × Nat × List Nat) := [(3, 8, [1, 3, 4, 5]), (3, 4, [1, 3]), (4, 5, [0, 7, 8, 9, 10]), (8, 5, [1, 3, 4, 6, 8, 9, 21, 22]), (10, 3, [0, 3, 4]), (22, 3, [0, 3, 4]), (23, 2, [0, 1, 7, 8])]
def keepL (f r : Nat) : List (Nat × Nat × List Nat) → Option (List Nat)
  | [] => none
  | (g, i, l) :: t => bif Nat.beq g f && Nat.beq i r then some l else keepL f r t
/-- What the runs are over. -/
noncomputable def TE : Env := { P := Try.prog, ok := fun f => Nat.ble 3 f && Nat.blt f 25, flat := fun _ => false, raw := fun _ f => f == 15, keep := fun f r => keepL f r keepT, sum := fun _ _ => none, fuel := 4611686018427387904 }
def okF (P : Program) (f : Nat) : Bool := match P.funcs[f]? with
  | some fn => fn.name != "runtime.NumGoroutine" && fn.body.isSome
  | none => false
theorem ok_all : ((List.range 25).all fun f => Nat.blt f 3 || okF Try.prog f) = true := by
  skip
  kernel_rfl
theorem envOk : EnvOk TE where
  ok f hf args w := by
    have hf : (Nat.ble 3 f && Nat.blt f 25) = true := hf
    rw [Bool.and_eq_true, Nat.ble_eq, Nat.blt_eq] at hf
    have h := List.all_eq_true.1 ok_all f (List.mem_range.2 hf.2)
    have h3 : Nat.blt f 3 = false := by
      cases h3 : Nat.blt f 3 with
      | false => rfl
      | true => rw [Nat.blt_eq] at h3; omega
    rw [h3, Bool.false_or] at h
    unfold okF at h
    show (callFunc f args).run Try.prog w = _
    split at h
    · rename_i fn hfn
      rw [Bool.and_eq_true] at h
      have h1 : fn.name ≠ "runtime.NumGoroutine" := by simpa using h.1
      cases hb : fn.body with
      | none => rw [hb] at h; simp at h
      | some c => simp [callFunc, hfn, h1, hb]
    · cases h
  flat t ht := by cases ht
  mixed := by kernel_rfl
theorem sumOk : SumOk TE := fun f args v h => by cases h
/-- A law that the abstract machine finds true. -/
theorem law_true {n : Nat} {from_ f : FuncId} {args : List AV} {h' : H} (hev : evCall TE n from_ (.fn f [] []) args ⟨[], []⟩ = some (.ret (.bool true), h')) {W : World} {vals : List Value} (ha : RepPL (fun c => c < W.heap.size) W.heap args vals) :
    Calls Try.prog f vals.toArray W fun e W' => e = .returned (.bool true) ∧ Below W.heap.size W W' :=
  (law_calls envOk sumOk hev ha).mono fun e W' ⟨u, K', he, hu, hg⟩ => ⟨by rw [he, hu.inv_bool], ⟨hg.os, hg.tape, hg.output, hg.tr.size, goes_block hg⟩⟩
end Go.Proofs.Ytejpjkkkknmjkaa.Ab
