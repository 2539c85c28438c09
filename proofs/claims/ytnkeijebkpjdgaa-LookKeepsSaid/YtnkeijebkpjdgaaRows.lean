/-
  No cell of these rows narrows 'for every input' (looked for: loops, veiled, ifaces, maps, wideKeys, modest, calm, conditions, laid).
  DERIVED. THE GIVEN ROWS OF THIS SEAT. 3 by the template 'for every input the law returns true; each argument reads behind the call as it read before'; 0 by the template 'total and deterministic' (their statements: YtnkeijebkpjdgaaTotals.lean).
  GIVEN WITH THE SEED: the statements are not yours to turn. If you find one false, say at which input.
  Laid BY PROGRAM, IN A SANDBOX (cutbox-rows.mjs): the forced cells as the released guide's own fill.sh prints them over the translation 6ef56ee54fedf4ef… (all of the seat's roots in one cut). By AI agents, Wed Nov 11 2026. No macro, syntax, notation, axiom, sorry.
-/
import Derived.Test.YtnkeijebkpjdgaaChecked
import GoSem.Claim
import GoSem.ClaimJoined
import GoSem.ClaimMapViews
import Derived.JoinedTies
import Derived.KernelRfl
namespace Go.Proofs.Ytnkeijebkpjdgaa
/- THE CELL 'sum', in the pinned program and in every row, IS THE sha256 OF THE DUMP (.gsa) THAT YtnkeijebkpjdgaaProg.lean LOADS. Nothing in Lean hashes anything: it is a label: what it is worth is what the hold of that sum in a sandbox is worth. -/
noncomputable def Try.pinned : Pinned := { name := "ytnkeijebkpjdgaa", sum := "6ef56ee54fedf4efe12c780f8a59516882f8b6f2fe9cc3c73310269e75b811b4", checked := Try.checked }
namespace Rows
def none {H : Type} : Left H := { results := [], args := [] }

/-- 'wharfingerlaw17.LookKeeps': WHATEVER THE INPUT: true; the input reads as it did. -/
def lookKeepsSpec : ChangeSpec := { name := "lookKeeps", fn := fun _ => fun
  | [d] => { results := [.lit (.bool true)], args := [d] }
  | _ => none }
def lookKeepsRow : OpenClaim := { program := "ytnkeijebkpjdgaa", sum := "6ef56ee54fedf4efe12c780f8a59516882f8b6f2fe9cc3c73310269e75b811b4", func := "wharfinger/wharfingerlaw17.LookKeeps", spec := "lookKeeps", unfollowed := true, recurses := true, apart := false }
def LookKeepsSaid : Prop := lookKeepsRow.holds Try.pinned (OpenSpec.ofChange lookKeepsSpec)

/-- ITS FALSE NEIGHBOUR: 'it returns false'. Refute it at one input. -/
def lookKeepsWrong : ChangeSpec := { name := "lookKeeps", fn := fun _ => fun
  | [d] => { results := [.lit (.bool false)], args := [d] }
  | _ => none }
def LookKeepsWrongFalsely : Prop := lookKeepsRow.holds Try.pinned (OpenSpec.ofChange lookKeepsWrong)

/-- 'wharfingerlaw17.LookReads': WHATEVER THE INPUT: true; the input reads as it did. -/
def lookReadsSpec : ChangeSpec := { name := "lookReads", fn := fun _ => fun
  | [d1, d2] => { results := [.lit (.bool true)], args := [d1, d2] }
  | _ => none }
def lookReadsRow : OpenClaim := { program := "ytnkeijebkpjdgaa", sum := "6ef56ee54fedf4efe12c780f8a59516882f8b6f2fe9cc3c73310269e75b811b4", func := "wharfinger/wharfingerlaw17.LookReads", spec := "lookReads", unfollowed := true, recurses := true, apart := false }
def LookReadsSaid : Prop := lookReadsRow.holds Try.pinned (OpenSpec.ofChange lookReadsSpec)

/-- ITS FALSE NEIGHBOUR: 'it returns false'. Refute it at one input. -/
def lookReadsWrong : ChangeSpec := { name := "lookReads", fn := fun _ => fun
  | [d1, d2] => { results := [.lit (.bool false)], args := [d1, d2] }
  | _ => none }
def LookReadsWrongFalsely : Prop := lookReadsRow.holds Try.pinned (OpenSpec.ofChange lookReadsWrong)

/-- 'wharfingerlaw17.LookHides': WHATEVER THE INPUT: true; the input reads as it did. -/
def lookHidesSpec : ChangeSpec := { name := "lookHides", fn := fun _ => fun
  | [d1, d2] => { results := [.lit (.bool true)], args := [d1, d2] }
  | _ => none }
def lookHidesRow : OpenClaim := { program := "ytnkeijebkpjdgaa", sum := "6ef56ee54fedf4efe12c780f8a59516882f8b6f2fe9cc3c73310269e75b811b4", func := "wharfinger/wharfingerlaw17.LookHides", spec := "lookHides", unfollowed := true, recurses := true, apart := false }
def LookHidesSaid : Prop := lookHidesRow.holds Try.pinned (OpenSpec.ofChange lookHidesSpec)

/-- ITS FALSE NEIGHBOUR: 'it returns false'. Refute it at one input. -/
def lookHidesWrong : ChangeSpec := { name := "lookHides", fn := fun _ => fun
  | [d1, d2] => { results := [.lit (.bool false)], args := [d1, d2] }
  | _ => none }
def LookHidesWrongFalsely : Prop := lookHidesRow.holds Try.pinned (OpenSpec.ofChange lookHidesWrong)

/- THE SECOND FORM. 'bulk': how many values and letters a reading holds, each counted each time it is reached (what is shared counts as often as it is met; a slice's spare places count too). A statement '..UptoSaid' is the law's where the arguments, and the package variables that the reading takes, are together of bulk at most 1048576: NARROWER than '..Said'. Prove '..Said' where nothing that the law and all that it calls make is longer than what came in: it says more and counts as full. Else prove '..UptoSaid'. A law counts once. -/
mutual
def uptoBulk {H : Type} : DataW H → Nat
  | .lit (.string bytes) => bytes.length + 1
  | .lit _ => 1
  | .nil => 1
  | .ptr d => uptoBulk d + 1
  | .slice elems spare => uptoBulkAll elems + uptoBulkAll spare + 1
  | .agg parts => uptoBulkAll parts + 1
  | .iface _ d => uptoBulk d + 1
  | .map entries => uptoBulkEntries entries + 1
  | .held _ => 1
def uptoBulkAll {H : Type} : List (DataW H) → Nat
  | [] => 0
  | d :: r => uptoBulk d + uptoBulkAll r
def uptoBulkEntries {H : Type} : List (Lit × DataW H) → Nat
  | [] => 0
  | x :: r => uptoBulkEntry x + uptoBulkEntries r
def uptoBulkEntry {H : Type} : Lit × DataW H → Nat
  | (.string bytes, d) => bytes.length + uptoBulk d + 1
  | (_, d) => uptoBulk d + 1
 end
def uptoSmall : (H : Type) → List (DataW H) → Bool := fun _ ds => decide (uptoBulkAll ds ≤ 1048576)
def OpenSpec.upto (s : _root_.Go.ChangeSpec) : _root_.Go.OpenSpec := { _root_.Go.OpenSpec.ofChange s with cond := some uptoSmall }

/-- 'wharfingerlaw17.LookKeeps', WHERE WHAT IT READS IS OF BULK AT MOST 1048576: true; the input reads as it did. -/
def lookKeepsUptoRow : OpenClaim := { program := "ytnkeijebkpjdgaa", sum := "6ef56ee54fedf4efe12c780f8a59516882f8b6f2fe9cc3c73310269e75b811b4", func := "wharfinger/wharfingerlaw17.LookKeeps", spec := "lookKeeps", unfollowed := true, recurses := true, apart := false, narrowed := true }
def LookKeepsUptoSaid : Prop := lookKeepsUptoRow.holds Try.pinned (OpenSpec.upto lookKeepsSpec)

/-- 'wharfingerlaw17.LookReads', WHERE WHAT IT READS IS OF BULK AT MOST 1048576: true; the input reads as it did. -/
def lookReadsUptoRow : OpenClaim := { program := "ytnkeijebkpjdgaa", sum := "6ef56ee54fedf4efe12c780f8a59516882f8b6f2fe9cc3c73310269e75b811b4", func := "wharfinger/wharfingerlaw17.LookReads", spec := "lookReads", unfollowed := true, recurses := true, apart := false, narrowed := true }
def LookReadsUptoSaid : Prop := lookReadsUptoRow.holds Try.pinned (OpenSpec.upto lookReadsSpec)

/-- 'wharfingerlaw17.LookHides', WHERE WHAT IT READS IS OF BULK AT MOST 1048576: true; the input reads as it did. -/
def lookHidesUptoRow : OpenClaim := { program := "ytnkeijebkpjdgaa", sum := "6ef56ee54fedf4efe12c780f8a59516882f8b6f2fe9cc3c73310269e75b811b4", func := "wharfinger/wharfingerlaw17.LookHides", spec := "lookHides", unfollowed := true, recurses := true, apart := false, narrowed := true }
def LookHidesUptoSaid : Prop := lookHidesUptoRow.holds Try.pinned (OpenSpec.upto lookHidesSpec)

end Rows
end Go.Proofs.Ytnkeijebkpjdgaa
