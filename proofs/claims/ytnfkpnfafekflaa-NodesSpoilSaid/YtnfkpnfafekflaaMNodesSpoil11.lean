import Derived.Test.YtnfkpnfafekflaaMNodesSpoil9
import Derived.Test.YtnfkpnfafekflaaMNodesSpoil10
import Derived.Test.YtnfkpnfafekflaaRows
import Derived.Below
import Derived.KernelRfl
set_option linter.unusedVariables false
set_option linter.unusedSimpArgs false
/- Over the engine, first text: what the runs are over; trees as values. -/
namespace Go.Proofs.Ytnfkpnfafekflaa.Ab
open Go Go.RowKit

def keepT : List (Nat × Nat × List Nat) := [(3, 19, [1, 3, 4, 11]), (3, 5, [1, 3, 4]), (6, 14, [1, 5, 6, 7, 8, 118, 119, 120]), (21, 5, [2, 3, 5, 6, 15, 16, 17]), (26, 2, [0, 1, 7, 8]), (28, 3, [0, 3, 4]), (29, 2, [0, 1, 7, 8]), (31, 1, [0, 6, 7, 8]), (36, 1, [0, 1, 2, 7, 8]), (38, 2, [0, 7, 8]), (40, 11, [6, 25, 26, 27]), (40, 3, [0, 3, 9, 10, 11]), (42, 4, [3, 4, 7, 8, 9]), (43, 4, [4, 14, 15, 16]), (45, 3, [0, 3, 4]), (46, 5, [0, 5, 7, 8, 9, 14, 15]), (46, 2, [0, 7, 8, 9]), (50, 2, [0, 3]), (52, 1, [0, 2, 4])]
def keepL (f r : Nat) : List (Nat × Nat × List Nat) → Option (List Nat)
  | [] => none
  | (g, i, l) :: t => bif Nat.beq g f && Nat.beq i r then some l else keepL f r t
def flatT : List (Nat × List Nat) := [(36, [0, 0]), (41, [0, 0, 0, 0, 0, 0, 0, 0]), (83, [0, 0, 0, 0, 0, 0, 0, 0, 0, 0, 0, 0, 0, 0, 0, 0]), (38, [0, 0, 0, 0, 0, 0, 0, 0, 0, 0, 0, 0, 0, 0]), (50, [2, 0, 0]), (69, [0, 0])]
/-- What the runs are over. -/
noncomputable def TE : Env := { P := Try.prog, ok := fun f => Nat.ble 3 f && Nat.blt f 53, flat := fun t => flatL t flatT, raw := fun c f => Nat.beq f 22 || Nat.beq f 25 || Nat.beq f 48, keep := fun f r => keepL f r keepT, sum := fun _ _ => none, fuel := 4611686018427387904, lend := fun f => Nat.beq f 26 || Nat.beq f 15 || Nat.beq f 14 || Nat.beq f 6 || Nat.beq f 9 || Nat.beq f 12 || Nat.beq f 11 || Nat.beq f 10 || Nat.beq f 13 }
def okF (P : Program) (f : Nat) : Bool := match P.funcs[f]? with
  | some fn => fn.name != "runtime.NumGoroutine" && fn.body.isSome
  | none => false
theorem ok_all : ((List.range 53).all fun f => Nat.blt f 3 || okF Try.prog f) = true := by
  skip
  kernel_rfl
theorem flats_ok : flatOk Try.prog flatT = true := by
  skip
  kernel_rfl
theorem envOk : EnvOk TE where
  ok f hf args w := by
    have hf : (Nat.ble 3 f && Nat.blt f 53) = true := hf
    rw [Bool.and_eq_true, Nat.ble_eq, Nat.blt_eq] at hf
    have h := List.all_eq_true.1 ok_all f (List.mem_range.2 hf.2)
    have h3 : Nat.blt f 3 = false := by
      cases h3 : Nat.blt f 3 with
      | false => rfl
      | true => rw [Nat.blt_eq] at h3; omega
    rw [h3, Bool.false_or] at h
    unfold okF at h
    show (callFunc f args).run Try.prog w = _
    split at h
    · rename_i fn hfn
      rw [Bool.and_eq_true] at h
      have h1 : fn.name ≠ "runtime.NumGoroutine" := by simpa using h.1
      cases hb : fn.body with
      | none => rw [hb] at h; simp at h
      | some c => simp [callFunc, hfn, h1, hb]
    · cases h
  flat t ks ht := flatL_ok (l := flatT) flats_ok ht
  mixed := by kernel_rfl
theorem sumOk : SumOk TE := fun f args v h => by cases h
/-- A law that the abstract machine finds true. -/
theorem law_true {n : Nat} {from_ f : FuncId} {args : List AV} {h' : H} (hev : evCall TE n from_ (.fn f [] []) args ⟨[], []⟩ = some (.ret (.bool true), h')) {W : World} {vals : List Value} (ha : RepPL (fun c => c < W.heap.size) W.heap args vals) :
    Calls Try.prog f vals.toArray W fun e W' => e = .returned (.bool true) ∧ Below W.heap.size W W' :=
  (law_calls envOk sumOk hev ha).mono fun e W' ⟨u, K', he, hu, hg⟩ => ⟨by rw [he, hu.inv_bool], ⟨hg.os, hg.tape, hg.output, hg.tr.size, goes_block hg⟩⟩
end Go.Proofs.Ytnfkpnfafekflaa.Ab
