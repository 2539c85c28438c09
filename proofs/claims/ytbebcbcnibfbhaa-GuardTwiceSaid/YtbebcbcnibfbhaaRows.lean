/-
  No cell of these rows narrows 'for every input' (looked for: loops, veiled, ifaces, maps, wideKeys, modest, calm, conditions, laid).
  DERIVED. THE GIVEN ROWS OF THIS SEAT. 7 by the template 'for every input the law returns true; each argument reads behind the call as it read before'; 0 by the template 'total and deterministic' (their statements: YtbebcbcnibfbhaaTotals.lean).
  GIVEN WITH THE SEED: the statements are not yours to turn. If you find one false, say at which input.
  Laid BY PROGRAM, IN A SANDBOX (cutbox-rows.mjs): the forced cells as the released guide's own fill.sh prints them over the translation bf9fc1dd4f2f75ff… (all of the seat's roots in one cut). By AI agents, Wed Nov 11 2026. No macro, syntax, notation, axiom, sorry.
-/
import Derived.Test.YtbebcbcnibfbhaaChecked
import GoSem.Claim
import GoSem.ClaimJoined
import GoSem.ClaimMapViews
import Derived.JoinedTies
import Derived.KernelRfl
namespace Go.Proofs.Ytbebcbcnibfbhaa
/- THE CELL 'sum', in the pinned program and in every row, IS THE sha256 OF THE DUMP (.gsa) THAT YtbebcbcnibfbhaaProg.lean LOADS. Nothing in Lean hashes anything: it is a label: what it is worth is what the hold of that sum in a sandbox is worth. -/
noncomputable def Try.pinned : Pinned := { name := "ytbebcbcnibfbhaa", sum := "bf9fc1dd4f2f75ff8df0aec51a1f94521e74bea8be55c22a4ad7dcd61d0d4f9c", checked := Try.checked }
namespace Rows
def none {H : Type} : Left H := { results := [], args := [] }

/-- 'wharfingerlaw16.GuardTwice': WHATEVER THE INPUT: true; the input reads as it did. -/
def guardTwiceSpec : ChangeSpec := { name := "guardTwice", fn := fun _ => fun
  | [d] => { results := [.lit (.bool true)], args := [d] }
  | _ => none }
def guardTwiceRow : OpenClaim := { program := "ytbebcbcnibfbhaa", sum := "bf9fc1dd4f2f75ff8df0aec51a1f94521e74bea8be55c22a4ad7dcd61d0d4f9c", func := "wharfinger/wharfingerlaw16.GuardTwice", spec := "guardTwice", unfollowed := true, recurses := true, apart := false }
def GuardTwiceSaid : Prop := guardTwiceRow.holds Try.pinned (OpenSpec.ofChange guardTwiceSpec)

/-- ITS FALSE NEIGHBOUR: 'it returns false'. Refute it at one input. -/
def guardTwiceWrong : ChangeSpec := { name := "guardTwice", fn := fun _ => fun
  | [d] => { results := [.lit (.bool false)], args := [d] }
  | _ => none }
def GuardTwiceWrongFalsely : Prop := guardTwiceRow.holds Try.pinned (OpenSpec.ofChange guardTwiceWrong)

/-- 'wharfingerlaw20.CodecSums': WHATEVER THE INPUT: true; the input reads as it did. -/
def codecSumsSpec : ChangeSpec := { name := "codecSums", fn := fun _ => fun
  | [d] => { results := [.lit (.bool true)], args := [d] }
  | _ => none }
def codecSumsRow : OpenClaim := { program := "ytbebcbcnibfbhaa", sum := "bf9fc1dd4f2f75ff8df0aec51a1f94521e74bea8be55c22a4ad7dcd61d0d4f9c", func := "wharfinger/wharfingerlaw20.CodecSums", spec := "codecSums", unfollowed := true, recurses := true, apart := false }
def CodecSumsSaid : Prop := codecSumsRow.holds Try.pinned (OpenSpec.ofChange codecSumsSpec)

/-- ITS FALSE NEIGHBOUR: 'it returns false'. Refute it at one input. -/
def codecSumsWrong : ChangeSpec := { name := "codecSums", fn := fun _ => fun
  | [d] => { results := [.lit (.bool false)], args := [d] }
  | _ => none }
def CodecSumsWrongFalsely : Prop := codecSumsRow.holds Try.pinned (OpenSpec.ofChange codecSumsWrong)

/-- 'wharfingerlaw20.CodecAgain': WHATEVER THE INPUT: true; the input reads as it did. -/
def codecAgainSpec : ChangeSpec := { name := "codecAgain", fn := fun _ => fun
  | [d] => { results := [.lit (.bool true)], args := [d] }
  | _ => none }
def codecAgainRow : OpenClaim := { program := "ytbebcbcnibfbhaa", sum := "bf9fc1dd4f2f75ff8df0aec51a1f94521e74bea8be55c22a4ad7dcd61d0d4f9c", func := "wharfinger/wharfingerlaw20.CodecAgain", spec := "codecAgain", unfollowed := true, recurses := true, apart := false }
def CodecAgainSaid : Prop := codecAgainRow.holds Try.pinned (OpenSpec.ofChange codecAgainSpec)

/-- ITS FALSE NEIGHBOUR: 'it returns false'. Refute it at one input. -/
def codecAgainWrong : ChangeSpec := { name := "codecAgain", fn := fun _ => fun
  | [d] => { results := [.lit (.bool false)], args := [d] }
  | _ => none }
def CodecAgainWrongFalsely : Prop := codecAgainRow.holds Try.pinned (OpenSpec.ofChange codecAgainWrong)

/-- 'wharfingerlaw14.NodesFound': WHATEVER THE INPUT: true; the input reads as it did. -/
def nodesFoundSpec : ChangeSpec := { name := "nodesFound", fn := fun _ => fun
  | [d] => { results := [.lit (.bool true)], args := [d] }
  | _ => none }
def nodesFoundRow : OpenClaim := { program := "ytbebcbcnibfbhaa", sum := "bf9fc1dd4f2f75ff8df0aec51a1f94521e74bea8be55c22a4ad7dcd61d0d4f9c", func := "wharfinger/wharfingerlaw14.NodesFound", spec := "nodesFound", unfollowed := true, recurses := true, apart := false }
def NodesFoundSaid : Prop := nodesFoundRow.holds Try.pinned (OpenSpec.ofChange nodesFoundSpec)

/-- ITS FALSE NEIGHBOUR: 'it returns false'. Refute it at one input. -/
def nodesFoundWrong : ChangeSpec := { name := "nodesFound", fn := fun _ => fun
  | [d] => { results := [.lit (.bool false)], args := [d] }
  | _ => none }
def NodesFoundWrongFalsely : Prop := nodesFoundRow.holds Try.pinned (OpenSpec.ofChange nodesFoundWrong)

/-- 'wharfingerlaw14.NodesSpoil': WHATEVER THE INPUT: true; the input reads as it did. -/
def nodesSpoilSpec : ChangeSpec := { name := "nodesSpoil", fn := fun _ => fun
  | [d1, d2, d3] => { results := [.lit (.bool true)], args := [d1, d2, d3] }
  | _ => none }
def nodesSpoilRow : OpenClaim := { program := "ytbebcbcnibfbhaa", sum := "bf9fc1dd4f2f75ff8df0aec51a1f94521e74bea8be55c22a4ad7dcd61d0d4f9c", func := "wharfinger/wharfingerlaw14.NodesSpoil", spec := "nodesSpoil", unfollowed := true, recurses := true, apart := false }
def NodesSpoilSaid : Prop := nodesSpoilRow.holds Try.pinned (OpenSpec.ofChange nodesSpoilSpec)

/-- ITS FALSE NEIGHBOUR: 'it returns false'. Refute it at one input. -/
def nodesSpoilWrong : ChangeSpec := { name := "nodesSpoil", fn := fun _ => fun
  | [d1, d2, d3] => { results := [.lit (.bool false)], args := [d1, d2, d3] }
  | _ => none }
def NodesSpoilWrongFalsely : Prop := nodesSpoilRow.holds Try.pinned (OpenSpec.ofChange nodesSpoilWrong)

/-- 'wharfingerlaw16.GuardKeeps': WHATEVER THE INPUT: true; the input reads as it did. -/
def guardKeepsSpec : ChangeSpec := { name := "guardKeeps", fn := fun _ => fun
  | [d] => { results := [.lit (.bool true)], args := [d] }
  | _ => none }
def guardKeepsRow : OpenClaim := { program := "ytbebcbcnibfbhaa", sum := "bf9fc1dd4f2f75ff8df0aec51a1f94521e74bea8be55c22a4ad7dcd61d0d4f9c", func := "wharfinger/wharfingerlaw16.GuardKeeps", spec := "guardKeeps", unfollowed := true, recurses := true, apart := false }
def GuardKeepsSaid : Prop := guardKeepsRow.holds Try.pinned (OpenSpec.ofChange guardKeepsSpec)

/-- ITS FALSE NEIGHBOUR: 'it returns false'. Refute it at one input. -/
def guardKeepsWrong : ChangeSpec := { name := "guardKeeps", fn := fun _ => fun
  | [d] => { results := [.lit (.bool false)], args := [d] }
  | _ => none }
def GuardKeepsWrongFalsely : Prop := guardKeepsRow.holds Try.pinned (OpenSpec.ofChange guardKeepsWrong)

/-- 'wharfingerlaw20.CodecBack': WHATEVER THE INPUT: true; the input reads as it did. -/
def codecBackSpec : ChangeSpec := { name := "codecBack", fn := fun _ => fun
  | [d1, d2, d3] => { results := [.lit (.bool true)], args := [d1, d2, d3] }
  | _ => none }
def codecBackRow : OpenClaim := { program := "ytbebcbcnibfbhaa", sum := "bf9fc1dd4f2f75ff8df0aec51a1f94521e74bea8be55c22a4ad7dcd61d0d4f9c", func := "wharfinger/wharfingerlaw20.CodecBack", spec := "codecBack", unfollowed := true, recurses := true, apart := false }
def CodecBackSaid : Prop := codecBackRow.holds Try.pinned (OpenSpec.ofChange codecBackSpec)

/-- ITS FALSE NEIGHBOUR: 'it returns false'. Refute it at one input. -/
def codecBackWrong : ChangeSpec := { name := "codecBack", fn := fun _ => fun
  | [d1, d2, d3] => { results := [.lit (.bool false)], args := [d1, d2, d3] }
  | _ => none }
def CodecBackWrongFalsely : Prop := codecBackRow.holds Try.pinned (OpenSpec.ofChange codecBackWrong)

/- THE SECOND FORM. 'bulk': how many values and letters a reading holds, each counted each time it is reached (what is shared counts as often as it is met; a slice's spare places count too). A statement '..UptoSaid' is the law's where the arguments, and the package variables that the reading takes, are together of bulk at most 1048576: NARROWER than '..Said'. Prove '..Said' where nothing that the law and all that it calls make is longer than what came in: it says more and counts as full. Else prove '..UptoSaid'. A law counts once. -/
mutual
def uptoBulk {H : Type} : DataW H → Nat
  | .lit (.string bytes) => bytes.length + 1
  | .lit _ => 1
  | .nil => 1
  | .ptr d => uptoBulk d + 1
  | .slice elems spare => uptoBulkAll elems + uptoBulkAll spare + 1
  | .agg parts => uptoBulkAll parts + 1
  | .iface _ d => uptoBulk d + 1
  | .map entries => uptoBulkEntries entries + 1
  | .held _ => 1
def uptoBulkAll {H : Type} : List (DataW H) → Nat
  | [] => 0
  | d :: r => uptoBulk d + uptoBulkAll r
def uptoBulkEntries {H : Type} : List (Lit × DataW H) → Nat
  | [] => 0
  | x :: r => uptoBulkEntry x + uptoBulkEntries r
def uptoBulkEntry {H : Type} : Lit × DataW H → Nat
  | (.string bytes, d) => bytes.length + uptoBulk d + 1
  | (_, d) => uptoBulk d + 1
 end
def uptoSmall : (H : Type) → List (DataW H) → Bool := fun _ ds => decide (uptoBulkAll ds ≤ 1048576)
def OpenSpec.upto (s : _root_.Go.ChangeSpec) : _root_.Go.OpenSpec := { _root_.Go.OpenSpec.ofChange s with cond := some uptoSmall }

/-- 'wharfingerlaw16.GuardTwice', WHERE WHAT IT READS IS OF BULK AT MOST 1048576: true; the input reads as it did. -/
def guardTwiceUptoRow : OpenClaim := { program := "ytbebcbcnibfbhaa", sum := "bf9fc1dd4f2f75ff8df0aec51a1f94521e74bea8be55c22a4ad7dcd61d0d4f9c", func := "wharfinger/wharfingerlaw16.GuardTwice", spec := "guardTwice", unfollowed := true, recurses := true, apart := false, narrowed := true }
def GuardTwiceUptoSaid : Prop := guardTwiceUptoRow.holds Try.pinned (OpenSpec.upto guardTwiceSpec)

/-- 'wharfingerlaw20.CodecSums', WHERE WHAT IT READS IS OF BULK AT MOST 1048576: true; the input reads as it did. -/
def codecSumsUptoRow : OpenClaim := { program := "ytbebcbcnibfbhaa", sum := "bf9fc1dd4f2f75ff8df0aec51a1f94521e74bea8be55c22a4ad7dcd61d0d4f9c", func := "wharfinger/wharfingerlaw20.CodecSums", spec := "codecSums", unfollowed := true, recurses := true, apart := false, narrowed := true }
def CodecSumsUptoSaid : Prop := codecSumsUptoRow.holds Try.pinned (OpenSpec.upto codecSumsSpec)

/-- 'wharfingerlaw20.CodecAgain', WHERE WHAT IT READS IS OF BULK AT MOST 1048576: true; the input reads as it did. -/
def codecAgainUptoRow : OpenClaim := { program := "ytbebcbcnibfbhaa", sum := "bf9fc1dd4f2f75ff8df0aec51a1f94521e74bea8be55c22a4ad7dcd61d0d4f9c", func := "wharfinger/wharfingerlaw20.CodecAgain", spec := "codecAgain", unfollowed := true, recurses := true, apart := false, narrowed := true }
def CodecAgainUptoSaid : Prop := codecAgainUptoRow.holds Try.pinned (OpenSpec.upto codecAgainSpec)

/-- 'wharfingerlaw14.NodesFound', WHERE WHAT IT READS IS OF BULK AT MOST 1048576: true; the input reads as it did. -/
def nodesFoundUptoRow : OpenClaim := { program := "ytbebcbcnibfbhaa", sum := "bf9fc1dd4f2f75ff8df0aec51a1f94521e74bea8be55c22a4ad7dcd61d0d4f9c", func := "wharfinger/wharfingerlaw14.NodesFound", spec := "nodesFound", unfollowed := true, recurses := true, apart := false, narrowed := true }
def NodesFoundUptoSaid : Prop := nodesFoundUptoRow.holds Try.pinned (OpenSpec.upto nodesFoundSpec)

/-- 'wharfingerlaw14.NodesSpoil', WHERE WHAT IT READS IS OF BULK AT MOST 1048576: true; the input reads as it did. -/
def nodesSpoilUptoRow : OpenClaim := { program := "ytbebcbcnibfbhaa", sum := "bf9fc1dd4f2f75ff8df0aec51a1f94521e74bea8be55c22a4ad7dcd61d0d4f9c", func := "wharfinger/wharfingerlaw14.NodesSpoil", spec := "nodesSpoil", unfollowed := true, recurses := true, apart := false, narrowed := true }
def NodesSpoilUptoSaid : Prop := nodesSpoilUptoRow.holds Try.pinned (OpenSpec.upto nodesSpoilSpec)

/-- 'wharfingerlaw16.GuardKeeps', WHERE WHAT IT READS IS OF BULK AT MOST 1048576: true; the input reads as it did. -/
def guardKeepsUptoRow : OpenClaim := { program := "ytbebcbcnibfbhaa", sum := "bf9fc1dd4f2f75ff8df0aec51a1f94521e74bea8be55c22a4ad7dcd61d0d4f9c", func := "wharfinger/wharfingerlaw16.GuardKeeps", spec := "guardKeeps", unfollowed := true, recurses := true, apart := false, narrowed := true }
def GuardKeepsUptoSaid : Prop := guardKeepsUptoRow.holds Try.pinned (OpenSpec.upto guardKeepsSpec)

/-- 'wharfingerlaw20.CodecBack', WHERE WHAT IT READS IS OF BULK AT MOST 1048576: true; the input reads as it did. -/
def codecBackUptoRow : OpenClaim := { program := "ytbebcbcnibfbhaa", sum := "bf9fc1dd4f2f75ff8df0aec51a1f94521e74bea8be55c22a4ad7dcd61d0d4f9c", func := "wharfinger/wharfingerlaw20.CodecBack", spec := "codecBack", unfollowed := true, recurses := true, apart := false, narrowed := true }
def CodecBackUptoSaid : Prop := codecBackUptoRow.holds Try.pinned (OpenSpec.upto codecBackSpec)

end Rows
end Go.Proofs.Ytbebcbcnibfbhaa
