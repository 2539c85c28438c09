import Derived.Test.YtbebcbcnibfbhaaEX
import Derived.Test.YtbebcbcnibfbhaaEZ
import Derived.Test.YtbebcbcnibfbhaaRows
import Derived.Below
import Derived.KernelRfl
/- Over the engine, first text: what the runs are over; trees as values. -/
namespace Go.Proofs.Ytbebcbcnibfbhaa.Ab
open Go Go.RowKit

def keepT : List (Nat × Nat × List Nat) := [(6, 19, [1, 3, 4, 11]), (6, 5, [1, 3, 4]), (8, 9, [1, 3, 5]), (12, 16, [5, 9, 10, 18, 74, 75]), (12, 6, [1, 5, 8, 9, 10, 50, 51]), (15, 3, [0, 3, 4]), (16, 7, [3, 6, 7, 8, 16]), (16, 3, [3, 6, 7, 8]), (17, 7, [0, 3, 4, 5]), (17, 3, [0, 3, 4]), (18, 4, [0, 1, 5]), (19, 4, [2, 5, 6]), (20, 23, [4, 5, 6, 7, 8, 10, 32, 33, 34, 101, 102, 103]), (20, 14, [4, 5, 6, 7, 8, 10, 32, 33, 34, 68, 69]), (20, 8, [4, 5, 6, 7, 8, 32, 33, 34]), (21, 4, [0, 1, 5]), (23, 14, [1, 5, 6, 7, 8, 118, 119, 120]), (35, 3, [3, 22, 23]), (38, 3, [1, 3, 4, 8, 9]), (39, 4, [1, 2, 3, 14, 15]), (48, 4, [0, 1, 5]), (52, 17, [0, 2, 7]), (52, 9, [0, 2, 30, 31]), (52, 3, [0, 2, 15, 16]), (54, 1, [1, 5, 6, 7]), (68, 5, [2, 3, 5, 6, 15, 16, 17]), (72, 2, [0, 1, 7, 8]), (74, 4, [0, 1, 5]), (75, 3, [0, 3, 4]), (91, 11, [6, 25, 26, 27]), (91, 3, [0, 3, 9, 10, 11]), (93, 2, [0, 1, 7, 8]), (95, 1, [0, 6, 7, 8]), (98, 1, [0, 1, 2, 7, 8]), (102, 4, [4, 14, 15, 16]), (112, 2, [0, 7, 8]), (114, 4, [3, 4, 7, 8, 9]), (116, 3, [0, 3, 4]), (117, 2, [0, 1, 7, 8]), (119, 4, [4, 14, 15, 16]), (120, 1, [0, 2, 4]), (121, 5, [0, 5, 7, 8, 9, 14, 15]), (121, 2, [0, 7, 8, 9]), (123, 2, [0, 3])]
def keepL (f r : Nat) : List (Nat × Nat × List Nat) → Option (List Nat)
  | [] => none
  | (g, i, l) :: t => bif Nat.beq g f && Nat.beq i r then some l else keepL f r t
def flatT : List (Nat × List Nat) := [(32, [0, 0]), (35, [0, 0, 0, 0, 0, 0, 0, 0]), (61, [0, 0, 0, 0, 0, 0, 0, 0, 0, 0, 0, 0, 0, 0]), (77, [1, 0, 0, 0, 0, 0, 1, 0, 0, 0, 0, 0, 0, 0, 0, 0, 0, 0, 0, 0, 0]), (71, [2, 0, 0]), (123, [0, 0]), (34, [1, 0, 1, 0, 1, 0, 1, 0, 0, 0, 0, 0, 0, 0])]
/-- What the runs are over. -/
noncomputable def TE : Env := { P := Try.prog, ok := fun f => Nat.ble 3 f && Nat.blt f 124, flat := fun t => flatL t flatT, raw := fun _ f => Nat.beq f 49 || Nat.beq f 39 || Nat.beq f 15 || Nat.beq f 18 || Nat.beq f 110, keep := fun f r => keepL f r keepT, sum := fun _ _ => none, fuel := 4611686018427387904 }
def okF (P : Program) (f : Nat) : Bool := match P.funcs[f]? with
  | some fn => fn.name != "runtime.NumGoroutine" && fn.body.isSome
  | none => false
theorem ok_all : ((List.range 124).all fun f => Nat.blt f 3 || okF Try.prog f) = true := by
  skip
  kernel_rfl
theorem flats_ok : flatOk Try.prog flatT = true := by
  skip
  kernel_rfl
theorem envOk : EnvOk TE where
  ok f hf args w := by
    have hf : (Nat.ble 3 f && Nat.blt f 124) = true := hf
    rw [Bool.and_eq_true, Nat.ble_eq, Nat.blt_eq] at hf
    have h := List.all_eq_true.1 ok_all f (List.mem_range.2 hf.2)
    have h3 : Nat.blt f 3 = false := by
      cases h3 : Nat.blt f 3 with
      | false => rfl
      | true => rw [Nat.blt_eq] at h3; omega
    rw [h3, Bool.false_or] at h
    unfold okF at h
    show (callFunc f args).run Try.prog w = _
    split at h
    · rename_i fn hfn
      rw [Bool.and_eq_true] at h
      have h1 : fn.name ≠ "runtime.NumGoroutine" := by simpa using h.1
      cases hb : fn.body with
      | none => rw [hb] at h; simp at h
      | some c => simp [callFunc, hfn, h1, hb]
    · cases h
  flat t ks ht := flatL_ok (l := flatT) flats_ok ht
  mixed := by kernel_rfl
theorem sumOk : SumOk TE := fun f args v h => by cases h
/-- A law that the abstract machine finds true. -/
theorem law_true {n : Nat} {from_ f : FuncId} {args : List AV} {h' : H} (hev : evCall TE n from_ (.fn f [] []) args ⟨[], []⟩ = some (.ret (.bool true), h')) {W : World} {vals : List Value} (ha : RepPL (fun c => c < W.heap.size) W.heap args vals) :
    Calls Try.prog f vals.toArray W fun e W' => e = .returned (.bool true) ∧ Below W.heap.size W W' :=
  (law_calls envOk sumOk hev ha).mono fun e W' ⟨u, K', he, hu, hg⟩ => ⟨by rw [he, hu.inv_bool], ⟨hg.os, hg.tape, hg.output, hg.tr.size, goes_block hg⟩⟩
end Go.Proofs.Ytbebcbcnibfbhaa.Ab
