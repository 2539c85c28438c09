import Derived.Test.YtlglhnadalbddaaMGuardKeeps9
import Derived.Test.YtlglhnadalbddaaMGuardKeeps10
import Derived.Test.YtlglhnadalbddaaRows
import Derived.Below
import Derived.KernelRfl
/- Over the engine, first text: what the runs are over; trees as values. -/
namespace Go.Proofs.Ytlglhnadalbddaa.Ab
open Go Go.RowKit

def keepT : List (Nat × Nat × List Nat) := [(3, 9, [1, 3, 5]), (5, 14, [1, 5, 6, 7, 8, 118, 119, 120]), (7, 16, [5, 9, 10, 18, 74, 75]), (7, 6, [1, 5, 8, 9, 10, 50, 51]), (19, 5, [2, 3, 5, 6, 15, 16, 17]), (23, 3, [3, 22, 23]), (26, 3, [1, 3, 4, 8, 9]), (27, 4, [1, 2, 3, 14, 15]), (36, 4, [0, 1, 5]), (37, 4, [0, 1, 5]), (38, 3, [0, 3, 4]), (39, 2, [0, 1, 7, 8]), (41, 1, [0, 6, 7, 8]), (53, 2, [0, 7, 8]), (55, 1, [0, 1, 2, 7, 8]), (59, 3, [0, 3, 4]), (60, 5, [0, 5, 7, 8, 9, 14, 15]), (60, 2, [0, 7, 8, 9]), (62, 2, [0, 1, 7, 8])]
def keepL (f r : Nat) : List (Nat × Nat × List Nat) → Option (List Nat)
  | [] => none
  | (g, i, l) :: t => bif Nat.beq g f && Nat.beq i r then some l else keepL f r t
def flatT : List (Nat × List Nat) := [(32, [0, 0]), (35, [0, 0, 0, 0, 0, 0, 0, 0]), (53, [0, 0, 0, 0, 0, 0, 0, 0, 0, 0, 0, 0, 0, 0]), (55, [1, 0, 0, 0, 0, 0, 1, 0, 0, 0, 0, 0, 0, 0, 0, 0, 0, 0, 0, 0, 0]), (72, [2, 0, 0]), (34, [1, 0, 1, 0, 1, 0, 1, 0, 0, 0, 0, 0, 0, 0])]
/-- What the runs are over. -/
noncomputable def TE : Env := { P := Try.prog, ok := fun f => Nat.ble 3 f && Nat.blt f 63, flat := fun t => flatL t flatT, raw := fun _ f => Nat.beq f 44 || Nat.beq f 27 || Nat.beq f 43, keep := fun f r => keepL f r keepT, sum := fun _ _ => none, fuel := 4611686018427387904, lend := fun f => Nat.beq f 13 || Nat.beq f 12 || Nat.beq f 5 || Nat.beq f 10 || Nat.beq f 20 || Nat.beq f 57 || Nat.beq f 22 || Nat.beq f 9 || Nat.beq f 11 || Nat.beq f 8 || Nat.beq f 36 || Nat.beq f 37 }
def okF (P : Program) (f : Nat) : Bool := match P.funcs[f]? with
  | some fn => fn.name != "runtime.NumGoroutine" && fn.body.isSome
  | none => false
theorem ok_all : ((List.range 63).all fun f => Nat.blt f 3 || okF Try.prog f) = true := by
  skip
  kernel_rfl
theorem flats_ok : flatOk Try.prog flatT = true := by
  skip
  kernel_rfl
theorem envOk : EnvOk TE where
  ok f hf args w := by
    have hf : (Nat.ble 3 f && Nat.blt f 63) = true := hf
    rw [Bool.and_eq_true, Nat.ble_eq, Nat.blt_eq] at hf
    have h := List.all_eq_true.1 ok_all f (List.mem_range.2 hf.2)
    have h3 : Nat.blt f 3 = false := by
      cases h3 : Nat.blt f 3 with
      | false => rfl
      | true => rw [Nat.blt_eq] at h3; omega
    rw [h3, Bool.false_or] at h
    unfold okF at h
    show (callFunc f args).run Try.prog w = _
    split at h
    · rename_i fn hfn
      rw [Bool.and_eq_true] at h
      have h1 : fn.name ≠ "runtime.NumGoroutine" := by simpa using h.1
      cases hb : fn.body with
      | none => rw [hb] at h; simp at h
      | some c => simp [callFunc, hfn, h1, hb]
    · cases h
  flat t ks ht := flatL_ok (l := flatT) flats_ok ht
  mixed := by kernel_rfl
theorem sumOk : SumOk TE := fun f args v h => by cases h
/-- A law that the abstract machine finds true. -/
theorem law_true {n : Nat} {from_ f : FuncId} {args : List AV} {h' : H} (hev : evCall TE n from_ (.fn f [] []) args ⟨[], []⟩ = some (.ret (.bool true), h')) {W : World} {vals : List Value} (ha : RepPL (fun c => c < W.heap.size) W.heap args vals) :
    Calls Try.prog f vals.toArray W fun e W' => e = .returned (.bool true) ∧ Below W.heap.size W W' :=
  (law_calls envOk sumOk hev ha).mono fun e W' ⟨u, K', he, hu, hg⟩ => ⟨by rw [he, hu.inv_bool], ⟨hg.os, hg.tape, hg.output, hg.tr.size, goes_block hg⟩⟩
end Go.Proofs.Ytlglhnadalbddaa.Ab
