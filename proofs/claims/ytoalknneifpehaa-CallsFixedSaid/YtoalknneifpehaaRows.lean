/-
  No cell of these rows narrows 'for every input' (looked for: loops, veiled, ifaces, maps, wideKeys, modest, calm, conditions, laid).
  DERIVED. THE GIVEN ROWS OF THIS SEAT. 5 by the template 'for every input the law returns true; each argument reads behind the call as it read before'; 0 by the template 'total and deterministic' (their statements: YtoalknneifpehaaTotals.lean).
  GIVEN WITH THE SEED: the statements are not yours to turn. If you find one false, say at which input.
  Laid BY PROGRAM, IN A SANDBOX (cutbox-rows.mjs): the forced cells as the released guide's own fill.sh prints them over the translation 17001c5c03f29946… (all of the seat's roots in one cut). By AI agents, Wed Nov 11 2026. No macro, syntax, notation, axiom, sorry.
-/
import Derived.Test.YtoalknneifpehaaChecked
import GoSem.Claim
import GoSem.ClaimJoined
import GoSem.ClaimMapViews
import Derived.JoinedTies
import Derived.KernelRfl
namespace Go.Proofs.Ytoalknneifpehaa
/- THE CELL 'sum', in the pinned program and in every row, IS THE sha256 OF THE DUMP (.gsa) THAT YtoalknneifpehaaProg.lean LOADS. Nothing in Lean hashes anything: it is a label: what it is worth is what the hold of that sum in a sandbox is worth. -/
noncomputable def Try.pinned : Pinned := { name := "ytoalknneifpehaa", sum := "17001c5c03f2994688e77fd8598c2ca1e0181b8d2f34b8dedaad0f44079676f7", checked := Try.checked }
namespace Rows
def none {H : Type} : Left H := { results := [], args := [] }

/-- 'wharfingerlaw06.CallsBack': WHATEVER THE INPUT: true; the input reads as it did. -/
def callsBackSpec : ChangeSpec := { name := "callsBack", fn := fun _ => fun
  | [d1, d2] => { results := [.lit (.bool true)], args := [d1, d2] }
  | _ => none }
def callsBackRow : OpenClaim := { program := "ytoalknneifpehaa", sum := "17001c5c03f2994688e77fd8598c2ca1e0181b8d2f34b8dedaad0f44079676f7", func := "wharfinger/wharfingerlaw06.CallsBack", spec := "callsBack", unfollowed := true, recurses := true, apart := false }
def CallsBackSaid : Prop := callsBackRow.holds Try.pinned (OpenSpec.ofChange callsBackSpec)

/-- ITS FALSE NEIGHBOUR: 'it returns false'. Refute it at one input. -/
def callsBackWrong : ChangeSpec := { name := "callsBack", fn := fun _ => fun
  | [d1, d2] => { results := [.lit (.bool false)], args := [d1, d2] }
  | _ => none }
def CallsBackWrongFalsely : Prop := callsBackRow.holds Try.pinned (OpenSpec.ofChange callsBackWrong)

/-- 'wharfingerlaw06.CallsAgain': WHATEVER THE INPUT: true; the input reads as it did. -/
def callsAgainSpec : ChangeSpec := { name := "callsAgain", fn := fun _ => fun
  | [d] => { results := [.lit (.bool true)], args := [d] }
  | _ => none }
def callsAgainRow : OpenClaim := { program := "ytoalknneifpehaa", sum := "17001c5c03f2994688e77fd8598c2ca1e0181b8d2f34b8dedaad0f44079676f7", func := "wharfinger/wharfingerlaw06.CallsAgain", spec := "callsAgain", unfollowed := true, recurses := true, apart := false }
def CallsAgainSaid : Prop := callsAgainRow.holds Try.pinned (OpenSpec.ofChange callsAgainSpec)

/-- ITS FALSE NEIGHBOUR: 'it returns false'. Refute it at one input. -/
def callsAgainWrong : ChangeSpec := { name := "callsAgain", fn := fun _ => fun
  | [d] => { results := [.lit (.bool false)], args := [d] }
  | _ => none }
def CallsAgainWrongFalsely : Prop := callsAgainRow.holds Try.pinned (OpenSpec.ofChange callsAgainWrong)

/-- 'wharfingerlaw06.CallsParts': WHATEVER THE INPUT: true; the input reads as it did. -/
def callsPartsSpec : ChangeSpec := { name := "callsParts", fn := fun _ => fun
  | [d] => { results := [.lit (.bool true)], args := [d] }
  | _ => none }
def callsPartsRow : OpenClaim := { program := "ytoalknneifpehaa", sum := "17001c5c03f2994688e77fd8598c2ca1e0181b8d2f34b8dedaad0f44079676f7", func := "wharfinger/wharfingerlaw06.CallsParts", spec := "callsParts", unfollowed := true, recurses := true, apart := false }
def CallsPartsSaid : Prop := callsPartsRow.holds Try.pinned (OpenSpec.ofChange callsPartsSpec)

/-- ITS FALSE NEIGHBOUR: 'it returns false'. Refute it at one input. -/
def callsPartsWrong : ChangeSpec := { name := "callsParts", fn := fun _ => fun
  | [d] => { results := [.lit (.bool false)], args := [d] }
  | _ => none }
def CallsPartsWrongFalsely : Prop := callsPartsRow.holds Try.pinned (OpenSpec.ofChange callsPartsWrong)

/-- 'wharfingerlaw06.CallsFixed': WHATEVER THE INPUT: true; the input reads as it did. -/
def callsFixedSpec : ChangeSpec := { name := "callsFixed", fn := fun _ => fun
  | [d1, d2] => { results := [.lit (.bool true)], args := [d1, d2] }
  | _ => none }
def callsFixedRow : OpenClaim := { program := "ytoalknneifpehaa", sum := "17001c5c03f2994688e77fd8598c2ca1e0181b8d2f34b8dedaad0f44079676f7", func := "wharfinger/wharfingerlaw06.CallsFixed", spec := "callsFixed", unfollowed := true, recurses := true, apart := false }
def CallsFixedSaid : Prop := callsFixedRow.holds Try.pinned (OpenSpec.ofChange callsFixedSpec)

/-- ITS FALSE NEIGHBOUR: 'it returns false'. Refute it at one input. -/
def callsFixedWrong : ChangeSpec := { name := "callsFixed", fn := fun _ => fun
  | [d1, d2] => { results := [.lit (.bool false)], args := [d1, d2] }
  | _ => none }
def CallsFixedWrongFalsely : Prop := callsFixedRow.holds Try.pinned (OpenSpec.ofChange callsFixedWrong)

/-- 'wharfingerlaw06.CallsNobody': WHATEVER THE INPUT: true; the input reads as it did. -/
def callsNobodySpec : ChangeSpec := { name := "callsNobody", fn := fun _ => fun
  | [d] => { results := [.lit (.bool true)], args := [d] }
  | _ => none }
def callsNobodyRow : OpenClaim := { program := "ytoalknneifpehaa", sum := "17001c5c03f2994688e77fd8598c2ca1e0181b8d2f34b8dedaad0f44079676f7", func := "wharfinger/wharfingerlaw06.CallsNobody", spec := "callsNobody", unfollowed := true, recurses := true, apart := false }
def CallsNobodySaid : Prop := callsNobodyRow.holds Try.pinned (OpenSpec.ofChange callsNobodySpec)

/-- ITS FALSE NEIGHBOUR: 'it returns false'. Refute it at one input. -/
def callsNobodyWrong : ChangeSpec := { name := "callsNobody", fn := fun _ => fun
  | [d] => { results := [.lit (.bool false)], args := [d] }
  | _ => none }
def CallsNobodyWrongFalsely : Prop := callsNobodyRow.holds Try.pinned (OpenSpec.ofChange callsNobodyWrong)

/- THE SECOND FORM. 'bulk': how many values and letters a reading holds, each counted each time it is reached (what is shared counts as often as it is met; a slice's spare places count too). A statement '..UptoSaid' is the law's where the arguments, and the package variables that the reading takes, are together of bulk at most 1048576: NARROWER than '..Said'. Prove '..Said' where nothing that the law and all that it calls make is longer than what came in: it says more and counts as full. Else prove '..UptoSaid'. A law counts once. -/
mutual
def uptoBulk {H : Type} : DataW H → Nat
  | .lit (.string bytes) => bytes.length + 1
  | .lit _ => 1
  | .nil => 1
  | .ptr d => uptoBulk d + 1
  | .slice elems spare => uptoBulkAll elems + uptoBulkAll spare + 1
  | .agg parts => uptoBulkAll parts + 1
  | .iface _ d => uptoBulk d + 1
  | .map entries => uptoBulkEntries entries + 1
  | .held _ => 1
def uptoBulkAll {H : Type} : List (DataW H) → Nat
  | [] => 0
  | d :: r => uptoBulk d + uptoBulkAll r
def uptoBulkEntries {H : Type} : List (Lit × DataW H) → Nat
  | [] => 0
  | x :: r => uptoBulkEntry x + uptoBulkEntries r
def uptoBulkEntry {H : Type} : Lit × DataW H → Nat
  | (.string bytes, d) => bytes.length + uptoBulk d + 1
  | (_, d) => uptoBulk d + 1
 end
def uptoSmall : (H : Type) → List (DataW H) → Bool := fun _ ds => decide (uptoBulkAll ds ≤ 1048576)
def OpenSpec.upto (s : _root_.Go.ChangeSpec) : _root_.Go.OpenSpec := { _root_.Go.OpenSpec.ofChange s with cond := some uptoSmall }

/-- 'wharfingerlaw06.CallsBack', WHERE WHAT IT READS IS OF BULK AT MOST 1048576: true; the input reads as it did. -/
def callsBackUptoRow : OpenClaim := { program := "ytoalknneifpehaa", sum := "17001c5c03f2994688e77fd8598c2ca1e0181b8d2f34b8dedaad0f44079676f7", func := "wharfinger/wharfingerlaw06.CallsBack", spec := "callsBack", unfollowed := true, recurses := true, apart := false, narrowed := true }
def CallsBackUptoSaid : Prop := callsBackUptoRow.holds Try.pinned (OpenSpec.upto callsBackSpec)

/-- 'wharfingerlaw06.CallsAgain', WHERE WHAT IT READS IS OF BULK AT MOST 1048576: true; the input reads as it did. -/
def callsAgainUptoRow : OpenClaim := { program := "ytoalknneifpehaa", sum := "17001c5c03f2994688e77fd8598c2ca1e0181b8d2f34b8dedaad0f44079676f7", func := "wharfinger/wharfingerlaw06.CallsAgain", spec := "callsAgain", unfollowed := true, recurses := true, apart := false, narrowed := true }
def CallsAgainUptoSaid : Prop := callsAgainUptoRow.holds Try.pinned (OpenSpec.upto callsAgainSpec)

/-- 'wharfingerlaw06.CallsParts', WHERE WHAT IT READS IS OF BULK AT MOST 1048576: true; the input reads as it did. -/
def callsPartsUptoRow : OpenClaim := { program := "ytoalknneifpehaa", sum := "17001c5c03f2994688e77fd8598c2ca1e0181b8d2f34b8dedaad0f44079676f7", func := "wharfinger/wharfingerlaw06.CallsParts", spec := "callsParts", unfollowed := true, recurses := true, apart := false, narrowed := true }
def CallsPartsUptoSaid : Prop := callsPartsUptoRow.holds Try.pinned (OpenSpec.upto callsPartsSpec)

/-- 'wharfingerlaw06.CallsFixed', WHERE WHAT IT READS IS OF BULK AT MOST 1048576: true; the input reads as it did. -/
def callsFixedUptoRow : OpenClaim := { program := "ytoalknneifpehaa", sum := "17001c5c03f2994688e77fd8598c2ca1e0181b8d2f34b8dedaad0f44079676f7", func := "wharfinger/wharfingerlaw06.CallsFixed", spec := "callsFixed", unfollowed := true, recurses := true, apart := false, narrowed := true }
def CallsFixedUptoSaid : Prop := callsFixedUptoRow.holds Try.pinned (OpenSpec.upto callsFixedSpec)

/-- 'wharfingerlaw06.CallsNobody', WHERE WHAT IT READS IS OF BULK AT MOST 1048576: true; the input reads as it did. -/
def callsNobodyUptoRow : OpenClaim := { program := "ytoalknneifpehaa", sum := "17001c5c03f2994688e77fd8598c2ca1e0181b8d2f34b8dedaad0f44079676f7", func := "wharfinger/wharfingerlaw06.CallsNobody", spec := "callsNobody", unfollowed := true, recurses := true, apart := false, narrowed := true }
def CallsNobodyUptoSaid : Prop := callsNobodyUptoRow.holds Try.pinned (OpenSpec.upto callsNobodySpec)

end Rows
end Go.Proofs.Ytoalknneifpehaa
