import Derived.Test.YtnkeijebkpjdgaaMLookKeeps11
import Derived.Test.YtnkeijebkpjdgaaMLookKeeps12
import Derived.Test.YtnkeijebkpjdgaaRows
import Derived.Below
import Derived.KernelRfl
set_option linter.unusedVariables false
set_option linter.unusedSimpArgs false
/- Over the engine, first text: what the runs are over; trees as values. -/
namespace Go.Proofs.Ytnkeijebkpjdgaa.Ab
open Go Go.RowKit

def keepT : List (Nat × Nat × List Nat) := [(3, 8, [1, 3, 4, 5, 7]), (4, 9, [0, 1, 5, 6, 8, 9]), (5, 10, [1, 2, 5, 6, 7, 8]), (5, 5, [1, 2, 5, 6]), (7, 14, [1, 5, 6, 7, 8, 118, 119, 120]), (27, 5, [2, 3, 5, 6, 15, 16, 17]), (29, 4, [0, 1, 5]), (30, 3, [1, 2, 11, 12, 13]), (34, 4, [0, 1, 5]), (39, 4, [0, 1, 5]), (40, 3, [0, 3, 4]), (42, 2, [0, 1, 7, 8]), (44, 1, [0, 6, 7, 8]), (58, 11, [0, 3, 4, 7]), (58, 4, [0, 3, 4, 24, 25, 26]), (65, 2, [0, 7, 8]), (67, 1, [0, 1, 2, 7, 8]), (71, 5, [1, 3, 4, 6, 8, 9, 21, 22]), (73, 4, [4, 14, 15, 16]), (74, 11, [6, 25, 26, 27]), (74, 3, [0, 3, 9, 10, 11]), (76, 4, [3, 4, 7, 8, 9]), (77, 2, [0, 1, 7, 8]), (78, 3, [0, 3, 4]), (79, 5, [0, 5, 7, 8, 9, 14, 15]), (79, 2, [0, 7, 8, 9]), (81, 2, [0, 1, 7, 8]), (86, 2, [0, 3]), (90, 1, [0, 2, 4])]
def keepL (f r : Nat) : List (Nat × Nat × List Nat) → Option (List Nat)
  | [] => none
  | (g, i, l) :: t => bif Nat.beq g f && Nat.beq i r then some l else keepL f r t
def flatT : List (Nat × List Nat) := [(34, [0, 0]), (37, [0, 0, 0, 0, 0, 0, 0, 0]), (126, [0, 0, 0, 0, 0, 0, 0, 0, 0, 0, 0, 0, 0, 0, 0, 0]), (50, [0, 0, 0, 0, 0, 0, 0, 0, 0, 0, 0, 0, 0, 0]), (52, [1, 0, 0, 0, 0, 0, 1, 0, 0, 0, 0, 0, 0, 0, 0, 0, 0, 0, 0, 0, 0]), (89, [2, 0, 0]), (101, [0, 0]), (54, [0, 0, 0]), (36, [1, 0, 1, 0, 1, 0, 1, 0, 0, 0, 0, 0, 0, 0])]
/-- What the runs are over. -/
noncomputable def TE : Env := { P := Try.prog, ok := fun f => Nat.ble 3 f && Nat.blt f 91, flat := fun t => flatL t flatT, raw := fun c f => Nat.beq f 31 || Nat.beq f 47 || Nat.beq f 48 || Nat.beq f 35 || Nat.beq f 46 || Nat.beq f 84 || (Nat.beq f 30 && Nat.beq c 57), keep := fun f r => keepL f r keepT, sum := fun _ _ => none, fuel := 4611686018427387904, lend := fun f => Nat.beq f 81 || Nat.beq f 21 || Nat.beq f 20 || Nat.beq f 7 || Nat.beq f 37 || Nat.beq f 70 || Nat.beq f 28 || Nat.beq f 10 || Nat.beq f 15 || Nat.beq f 16 || Nat.beq f 71 || Nat.beq f 72 || Nat.beq f 18 || Nat.beq f 11 || Nat.beq f 29 || Nat.beq f 34 || Nat.beq f 17 || Nat.beq f 39 || Nat.beq f 19 || Nat.beq f 6 }
def okF (P : Program) (f : Nat) : Bool := match P.funcs[f]? with
  | some fn => fn.name != "runtime.NumGoroutine" && fn.body.isSome
  | none => false
theorem ok_all : ((List.range 91).all fun f => Nat.blt f 3 || okF Try.prog f) = true := by
  skip
  kernel_rfl
theorem flats_ok : flatOk Try.prog flatT = true := by
  skip
  kernel_rfl
theorem envOk : EnvOk TE where
  ok f hf args w := by
    have hf : (Nat.ble 3 f && Nat.blt f 91) = true := hf
    rw [Bool.and_eq_true, Nat.ble_eq, Nat.blt_eq] at hf
    have h := List.all_eq_true.1 ok_all f (List.mem_range.2 hf.2)
    have h3 : Nat.blt f 3 = false := by
      cases h3 : Nat.blt f 3 with
      | false => rfl
      | true => rw [Nat.blt_eq] at h3; omega
    rw [h3, Bool.false_or] at h
    unfold okF at h
    show (callFunc f args).run Try.prog w = _
    split at h
    · rename_i fn hfn
      rw [Bool.and_eq_true] at h
      have h1 : fn.name ≠ "runtime.NumGoroutine" := by simpa using h.1
      cases hb : fn.body with
      | none => rw [hb] at h; simp at h
      | some c => simp [callFunc, hfn, h1, hb]
    · cases h
  flat t ks ht := flatL_ok (l := flatT) flats_ok ht
  mixed := by kernel_rfl
theorem sumOk : SumOk TE := fun f args v h => by cases h
/-- A law that the abstract machine finds true. -/
theorem law_true {n : Nat} {from_ f : FuncId} {args : List AV} {h' : H} (hev : evCall TE n from_ (.fn f [] []) args ⟨[], []⟩ = some (.ret (.bool true), h')) {W : World} {vals : List Value} (ha : RepPL (fun c => c < W.heap.size) W.heap args vals) :
    Calls Try.prog f vals.toArray W fun e W' => e = .returned (.bool true) ∧ Below W.heap.size W W' :=
  (law_calls envOk sumOk hev ha).mono fun e W' ⟨u, K', he, hu, hg⟩ => ⟨by rw [he, hu.inv_bool], ⟨hg.os, hg.tape, hg.output, hg.tr.size, goes_block hg⟩⟩
end Go.Proofs.Ytnkeijebkpjdgaa.Ab
