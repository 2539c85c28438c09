/-
  No cell of these rows narrows 'for every input' (looked for: loops, veiled, ifaces, maps, wideKeys, modest, calm, conditions, laid).
  DERIVED. THE GIVEN ROWS OF THIS SEAT. 5 by the template 'for every input the law returns true; each argument reads behind the call as it read before'; 0 by the template 'total and deterministic' (their statements: YtclojfnmknknjaaTotals.lean).
  GIVEN WITH THE SEED: the statements are not yours to turn. If you find one false, say at which input.
  Laid BY PROGRAM, IN A SANDBOX (cutbox-rows.mjs): the forced cells as the released guide's own fill.sh prints them over the translation d21b3e6bebeae2a9… (all of the seat's roots in one cut). By AI agents, Wed Nov 11 2026. No macro, syntax, notation, axiom, sorry.
-/
import Derived.Test.YtclojfnmknknjaaChecked
import GoSem.Claim
import GoSem.ClaimJoined
import GoSem.ClaimMapViews
import Derived.JoinedTies
import Derived.KernelRfl
namespace Go.Proofs.Ytclojfnmknknjaa
/- THE CELL 'sum', in the pinned program and in every row, IS THE sha256 OF THE DUMP (.gsa) THAT YtclojfnmknknjaaProg.lean LOADS. Nothing in Lean hashes anything: it is a label: what it is worth is what the hold of that sum in a sandbox is worth. -/
noncomputable def Try.pinned : Pinned := { name := "ytclojfnmknknjaa", sum := "d21b3e6bebeae2a99166715de26d3db804595848aa20dc09fa1c44666d9df5af", checked := Try.checked }
namespace Rows
def none {H : Type} : Left H := { results := [], args := [] }

/-- 'wharfingerlaw02.OpaqueBack': WHATEVER THE INPUT: true; the input reads as it did. -/
def opaqueBackSpec : ChangeSpec := { name := "opaqueBack", fn := fun _ => fun
  | [d1, d2, d3] => { results := [.lit (.bool true)], args := [d1, d2, d3] }
  | _ => none }
def opaqueBackRow : OpenClaim := { program := "ytclojfnmknknjaa", sum := "d21b3e6bebeae2a99166715de26d3db804595848aa20dc09fa1c44666d9df5af", func := "wharfinger/wharfingerlaw02.OpaqueBack", spec := "opaqueBack", unfollowed := true, recurses := true, apart := false }
def OpaqueBackSaid : Prop := opaqueBackRow.holds Try.pinned (OpenSpec.ofChange opaqueBackSpec)

/-- ITS FALSE NEIGHBOUR: 'it returns false'. Refute it at one input. -/
def opaqueBackWrong : ChangeSpec := { name := "opaqueBack", fn := fun _ => fun
  | [d1, d2, d3] => { results := [.lit (.bool false)], args := [d1, d2, d3] }
  | _ => none }
def OpaqueBackWrongFalsely : Prop := opaqueBackRow.holds Try.pinned (OpenSpec.ofChange opaqueBackWrong)

/-- 'wharfingerlaw02.OpaqueFixedBack': WHATEVER THE INPUT: true; the input reads as it did. -/
def opaqueFixedBackSpec : ChangeSpec := { name := "opaqueFixedBack", fn := fun _ => fun
  | [d1, d2, d3] => { results := [.lit (.bool true)], args := [d1, d2, d3] }
  | _ => none }
def opaqueFixedBackRow : OpenClaim := { program := "ytclojfnmknknjaa", sum := "d21b3e6bebeae2a99166715de26d3db804595848aa20dc09fa1c44666d9df5af", func := "wharfinger/wharfingerlaw02.OpaqueFixedBack", spec := "opaqueFixedBack", unfollowed := true, recurses := true, apart := false }
def OpaqueFixedBackSaid : Prop := opaqueFixedBackRow.holds Try.pinned (OpenSpec.ofChange opaqueFixedBackSpec)

/-- ITS FALSE NEIGHBOUR: 'it returns false'. Refute it at one input. -/
def opaqueFixedBackWrong : ChangeSpec := { name := "opaqueFixedBack", fn := fun _ => fun
  | [d1, d2, d3] => { results := [.lit (.bool false)], args := [d1, d2, d3] }
  | _ => none }
def OpaqueFixedBackWrongFalsely : Prop := opaqueFixedBackRow.holds Try.pinned (OpenSpec.ofChange opaqueFixedBackWrong)

/-- 'wharfingerlaw02.OpaqueAgain': WHATEVER THE INPUT: true; the input reads as it did. -/
def opaqueAgainSpec : ChangeSpec := { name := "opaqueAgain", fn := fun _ => fun
  | [d1, d2] => { results := [.lit (.bool true)], args := [d1, d2] }
  | _ => none }
def opaqueAgainRow : OpenClaim := { program := "ytclojfnmknknjaa", sum := "d21b3e6bebeae2a99166715de26d3db804595848aa20dc09fa1c44666d9df5af", func := "wharfinger/wharfingerlaw02.OpaqueAgain", spec := "opaqueAgain", unfollowed := true, recurses := true, apart := false }
def OpaqueAgainSaid : Prop := opaqueAgainRow.holds Try.pinned (OpenSpec.ofChange opaqueAgainSpec)

/-- ITS FALSE NEIGHBOUR: 'it returns false'. Refute it at one input. -/
def opaqueAgainWrong : ChangeSpec := { name := "opaqueAgain", fn := fun _ => fun
  | [d1, d2] => { results := [.lit (.bool false)], args := [d1, d2] }
  | _ => none }
def OpaqueAgainWrongFalsely : Prop := opaqueAgainRow.holds Try.pinned (OpenSpec.ofChange opaqueAgainWrong)

/-- 'wharfingerlaw02.OpaqueNoughts': WHATEVER THE INPUT: true; the input reads as it did. -/
def opaqueNoughtsSpec : ChangeSpec := { name := "opaqueNoughts", fn := fun _ => fun
  | [d1, d2, d3] => { results := [.lit (.bool true)], args := [d1, d2, d3] }
  | _ => none }
def opaqueNoughtsRow : OpenClaim := { program := "ytclojfnmknknjaa", sum := "d21b3e6bebeae2a99166715de26d3db804595848aa20dc09fa1c44666d9df5af", func := "wharfinger/wharfingerlaw02.OpaqueNoughts", spec := "opaqueNoughts", unfollowed := true, recurses := true, apart := false }
def OpaqueNoughtsSaid : Prop := opaqueNoughtsRow.holds Try.pinned (OpenSpec.ofChange opaqueNoughtsSpec)

/-- ITS FALSE NEIGHBOUR: 'it returns false'. Refute it at one input. -/
def opaqueNoughtsWrong : ChangeSpec := { name := "opaqueNoughts", fn := fun _ => fun
  | [d1, d2, d3] => { results := [.lit (.bool false)], args := [d1, d2, d3] }
  | _ => none }
def OpaqueNoughtsWrongFalsely : Prop := opaqueNoughtsRow.holds Try.pinned (OpenSpec.ofChange opaqueNoughtsWrong)

/-- 'wharfingerlaw02.OpaqueRow': WHATEVER THE INPUT: true; the input reads as it did. -/
def opaqueRowSpec : ChangeSpec := { name := "opaqueRow", fn := fun _ => fun
  | [d] => { results := [.lit (.bool true)], args := [d] }
  | _ => none }
def opaqueRowRow : OpenClaim := { program := "ytclojfnmknknjaa", sum := "d21b3e6bebeae2a99166715de26d3db804595848aa20dc09fa1c44666d9df5af", func := "wharfinger/wharfingerlaw02.OpaqueRow", spec := "opaqueRow", unfollowed := true, recurses := true, apart := false }
def OpaqueRowSaid : Prop := opaqueRowRow.holds Try.pinned (OpenSpec.ofChange opaqueRowSpec)

/-- ITS FALSE NEIGHBOUR: 'it returns false'. Refute it at one input. -/
def opaqueRowWrong : ChangeSpec := { name := "opaqueRow", fn := fun _ => fun
  | [d] => { results := [.lit (.bool false)], args := [d] }
  | _ => none }
def OpaqueRowWrongFalsely : Prop := opaqueRowRow.holds Try.pinned (OpenSpec.ofChange opaqueRowWrong)

/- THE SECOND FORM. 'bulk': how many values and letters a reading holds, each counted each time it is reached (what is shared counts as often as it is met; a slice's spare places count too). A statement '..UptoSaid' is the law's where the arguments, and the package variables that the reading takes, are together of bulk at most 1048576: NARROWER than '..Said'. Prove '..Said' where nothing that the law and all that it calls make is longer than what came in: it says more and counts as full. Else prove '..UptoSaid'. A law counts once. -/
mutual
def uptoBulk {H : Type} : DataW H → Nat
  | .lit (.string bytes) => bytes.length + 1
  | .lit _ => 1
  | .nil => 1
  | .ptr d => uptoBulk d + 1
  | .slice elems spare => uptoBulkAll elems + uptoBulkAll spare + 1
  | .agg parts => uptoBulkAll parts + 1
  | .iface _ d => uptoBulk d + 1
  | .map entries => uptoBulkEntries entries + 1
  | .held _ => 1
def uptoBulkAll {H : Type} : List (DataW H) → Nat
  | [] => 0
  | d :: r => uptoBulk d + uptoBulkAll r
def uptoBulkEntries {H : Type} : List (Lit × DataW H) → Nat
  | [] => 0
  | x :: r => uptoBulkEntry x + uptoBulkEntries r
def uptoBulkEntry {H : Type} : Lit × DataW H → Nat
  | (.string bytes, d) => bytes.length + uptoBulk d + 1
  | (_, d) => uptoBulk d + 1
 end
def uptoSmall : (H : Type) → List (DataW H) → Bool := fun _ ds => decide (uptoBulkAll ds ≤ 1048576)
def OpenSpec.upto (s : _root_.Go.ChangeSpec) : _root_.Go.OpenSpec := { _root_.Go.OpenSpec.ofChange s with cond := some uptoSmall }

/-- 'wharfingerlaw02.OpaqueBack', WHERE WHAT IT READS IS OF BULK AT MOST 1048576: true; the input reads as it did. -/
def opaqueBackUptoRow : OpenClaim := { program := "ytclojfnmknknjaa", sum := "d21b3e6bebeae2a99166715de26d3db804595848aa20dc09fa1c44666d9df5af", func := "wharfinger/wharfingerlaw02.OpaqueBack", spec := "opaqueBack", unfollowed := true, recurses := true, apart := false, narrowed := true }
def OpaqueBackUptoSaid : Prop := opaqueBackUptoRow.holds Try.pinned (OpenSpec.upto opaqueBackSpec)

/-- 'wharfingerlaw02.OpaqueFixedBack', WHERE WHAT IT READS IS OF BULK AT MOST 1048576: true; the input reads as it did. -/
def opaqueFixedBackUptoRow : OpenClaim := { program := "ytclojfnmknknjaa", sum := "d21b3e6bebeae2a99166715de26d3db804595848aa20dc09fa1c44666d9df5af", func := "wharfinger/wharfingerlaw02.OpaqueFixedBack", spec := "opaqueFixedBack", unfollowed := true, recurses := true, apart := false, narrowed := true }
def OpaqueFixedBackUptoSaid : Prop := opaqueFixedBackUptoRow.holds Try.pinned (OpenSpec.upto opaqueFixedBackSpec)

/-- 'wharfingerlaw02.OpaqueAgain', WHERE WHAT IT READS IS OF BULK AT MOST 1048576: true; the input reads as it did. -/
def opaqueAgainUptoRow : OpenClaim := { program := "ytclojfnmknknjaa", sum := "d21b3e6bebeae2a99166715de26d3db804595848aa20dc09fa1c44666d9df5af", func := "wharfinger/wharfingerlaw02.OpaqueAgain", spec := "opaqueAgain", unfollowed := true, recurses := true, apart := false, narrowed := true }
def OpaqueAgainUptoSaid : Prop := opaqueAgainUptoRow.holds Try.pinned (OpenSpec.upto opaqueAgainSpec)

/-- 'wharfingerlaw02.OpaqueNoughts', WHERE WHAT IT READS IS OF BULK AT MOST 1048576: true; the input reads as it did. -/
def opaqueNoughtsUptoRow : OpenClaim := { program := "ytclojfnmknknjaa", sum := "d21b3e6bebeae2a99166715de26d3db804595848aa20dc09fa1c44666d9df5af", func := "wharfinger/wharfingerlaw02.OpaqueNoughts", spec := "opaqueNoughts", unfollowed := true, recurses := true, apart := false, narrowed := true }
def OpaqueNoughtsUptoSaid : Prop := opaqueNoughtsUptoRow.holds Try.pinned (OpenSpec.upto opaqueNoughtsSpec)

/-- 'wharfingerlaw02.OpaqueRow', WHERE WHAT IT READS IS OF BULK AT MOST 1048576: true; the input reads as it did. -/
def opaqueRowUptoRow : OpenClaim := { program := "ytclojfnmknknjaa", sum := "d21b3e6bebeae2a99166715de26d3db804595848aa20dc09fa1c44666d9df5af", func := "wharfinger/wharfingerlaw02.OpaqueRow", spec := "opaqueRow", unfollowed := true, recurses := true, apart := false, narrowed := true }
def OpaqueRowUptoSaid : Prop := opaqueRowUptoRow.holds Try.pinned (OpenSpec.upto opaqueRowSpec)

end Rows
end Go.Proofs.Ytclojfnmknknjaa
