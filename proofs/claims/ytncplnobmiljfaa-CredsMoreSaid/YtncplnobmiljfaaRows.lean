/-
  No cell of these rows narrows 'for every input' (looked for: loops, veiled, ifaces, maps, wideKeys, modest, calm, conditions, laid).
  DERIVED. THE GIVEN ROWS OF THIS SEAT. 21 by the template 'for every input the law returns true; each argument reads behind the call as it read before'; 0 by the template 'total and deterministic' (their statements: YtncplnobmiljfaaTotals.lean).
  GIVEN WITH THE SEED: the statements are not yours to turn. If you find one false, say at which input.
  Laid BY PROGRAM, IN A SANDBOX (cutbox-rows.mjs): the forced cells as the released guide's own fill.sh prints them over the translation 14caba2111c00865… (all of the seat's roots in one cut). By AI agents, Wed Nov 11 2026. No macro, syntax, notation, axiom, sorry.
-/
import Derived.Test.YtncplnobmiljfaaChecked
import GoSem.Claim
import GoSem.ClaimJoined
import GoSem.ClaimMapViews
import Derived.JoinedTies
import Derived.KernelRfl
namespace Go.Proofs.Ytncplnobmiljfaa
/- THE CELL 'sum', in the pinned program and in every row, IS THE sha256 OF THE DUMP (.gsa) THAT YtncplnobmiljfaaProg.lean LOADS. Nothing in Lean hashes anything: it is a label: what it is worth is what the hold of that sum in a sandbox is worth. -/
noncomputable def Try.pinned : Pinned := { name := "ytncplnobmiljfaa", sum := "14caba2111c00865d2814b494b601267588edef4a1fc85a9f74f031b10afe82d", checked := Try.checked }
namespace Rows
def none {H : Type} : Left H := { results := [], args := [] }

/-- 'wharfingerlaw03.StringsGets': WHATEVER THE INPUT: true; the input reads as it did. -/
def stringsGetsSpec : ChangeSpec := { name := "stringsGets", fn := fun _ => fun
  | [d1, d2] => { results := [.lit (.bool true)], args := [d1, d2] }
  | _ => none }
def stringsGetsRow : OpenClaim := { program := "ytncplnobmiljfaa", sum := "14caba2111c00865d2814b494b601267588edef4a1fc85a9f74f031b10afe82d", func := "wharfinger/wharfingerlaw03.StringsGets", spec := "stringsGets", apart := false }
def StringsGetsSaid : Prop := stringsGetsRow.holds Try.pinned (OpenSpec.ofChange stringsGetsSpec)

/-- ITS FALSE NEIGHBOUR: 'it returns false'. Refute it at one input. -/
def stringsGetsWrong : ChangeSpec := { name := "stringsGets", fn := fun _ => fun
  | [d1, d2] => { results := [.lit (.bool false)], args := [d1, d2] }
  | _ => none }
def StringsGetsWrongFalsely : Prop := stringsGetsRow.holds Try.pinned (OpenSpec.ofChange stringsGetsWrong)

/-- 'wharfingerlaw03.StringsBack': WHATEVER THE INPUT: true; the input reads as it did. -/
def stringsBackSpec : ChangeSpec := { name := "stringsBack", fn := fun _ => fun
  | [d1, d2] => { results := [.lit (.bool true)], args := [d1, d2] }
  | _ => none }
def stringsBackRow : OpenClaim := { program := "ytncplnobmiljfaa", sum := "14caba2111c00865d2814b494b601267588edef4a1fc85a9f74f031b10afe82d", func := "wharfinger/wharfingerlaw03.StringsBack", spec := "stringsBack", unfollowed := true, recurses := true, apart := false }
def StringsBackSaid : Prop := stringsBackRow.holds Try.pinned (OpenSpec.ofChange stringsBackSpec)

/-- ITS FALSE NEIGHBOUR: 'it returns false'. Refute it at one input. -/
def stringsBackWrong : ChangeSpec := { name := "stringsBack", fn := fun _ => fun
  | [d1, d2] => { results := [.lit (.bool false)], args := [d1, d2] }
  | _ => none }
def StringsBackWrongFalsely : Prop := stringsBackRow.holds Try.pinned (OpenSpec.ofChange stringsBackWrong)

/-- 'wharfingerlaw03.StringsAgain': WHATEVER THE INPUT: true; the input reads as it did. -/
def stringsAgainSpec : ChangeSpec := { name := "stringsAgain", fn := fun _ => fun
  | [d1, d2] => { results := [.lit (.bool true)], args := [d1, d2] }
  | _ => none }
def stringsAgainRow : OpenClaim := { program := "ytncplnobmiljfaa", sum := "14caba2111c00865d2814b494b601267588edef4a1fc85a9f74f031b10afe82d", func := "wharfinger/wharfingerlaw03.StringsAgain", spec := "stringsAgain", unfollowed := true, recurses := true, apart := false }
def StringsAgainSaid : Prop := stringsAgainRow.holds Try.pinned (OpenSpec.ofChange stringsAgainSpec)

/-- ITS FALSE NEIGHBOUR: 'it returns false'. Refute it at one input. -/
def stringsAgainWrong : ChangeSpec := { name := "stringsAgain", fn := fun _ => fun
  | [d1, d2] => { results := [.lit (.bool false)], args := [d1, d2] }
  | _ => none }
def StringsAgainWrongFalsely : Prop := stringsAgainRow.holds Try.pinned (OpenSpec.ofChange stringsAgainWrong)

/-- 'wharfingerlaw03.StringsNames': WHATEVER THE INPUT: true; the input reads as it did. -/
def stringsNamesSpec : ChangeSpec := { name := "stringsNames", fn := fun _ => fun
  | [d] => { results := [.lit (.bool true)], args := [d] }
  | _ => none }
def stringsNamesRow : OpenClaim := { program := "ytncplnobmiljfaa", sum := "14caba2111c00865d2814b494b601267588edef4a1fc85a9f74f031b10afe82d", func := "wharfinger/wharfingerlaw03.StringsNames", spec := "stringsNames", unfollowed := true, recurses := true, apart := false }
def StringsNamesSaid : Prop := stringsNamesRow.holds Try.pinned (OpenSpec.ofChange stringsNamesSpec)

/-- ITS FALSE NEIGHBOUR: 'it returns false'. Refute it at one input. -/
def stringsNamesWrong : ChangeSpec := { name := "stringsNames", fn := fun _ => fun
  | [d] => { results := [.lit (.bool false)], args := [d] }
  | _ => none }
def StringsNamesWrongFalsely : Prop := stringsNamesRow.holds Try.pinned (OpenSpec.ofChange stringsNamesWrong)

/-- 'wharfingerlaw03.StringsBytes': WHATEVER THE INPUT: true; the input reads as it did. -/
def stringsBytesSpec : ChangeSpec := { name := "stringsBytes", fn := fun _ => fun
  | [d1, d2] => { results := [.lit (.bool true)], args := [d1, d2] }
  | _ => none }
def stringsBytesRow : OpenClaim := { program := "ytncplnobmiljfaa", sum := "14caba2111c00865d2814b494b601267588edef4a1fc85a9f74f031b10afe82d", func := "wharfinger/wharfingerlaw03.StringsBytes", spec := "stringsBytes", unfollowed := true, recurses := true, apart := false }
def StringsBytesSaid : Prop := stringsBytesRow.holds Try.pinned (OpenSpec.ofChange stringsBytesSpec)

/-- ITS FALSE NEIGHBOUR: 'it returns false'. Refute it at one input. -/
def stringsBytesWrong : ChangeSpec := { name := "stringsBytes", fn := fun _ => fun
  | [d1, d2] => { results := [.lit (.bool false)], args := [d1, d2] }
  | _ => none }
def StringsBytesWrongFalsely : Prop := stringsBytesRow.holds Try.pinned (OpenSpec.ofChange stringsBytesWrong)

/-- 'wharfingerlaw03.StringsLong': WHATEVER THE INPUT: true; the input reads as it did. -/
def stringsLongSpec : ChangeSpec := { name := "stringsLong", fn := fun _ => fun
  | [d1, d2] => { results := [.lit (.bool true)], args := [d1, d2] }
  | _ => none }
def stringsLongRow : OpenClaim := { program := "ytncplnobmiljfaa", sum := "14caba2111c00865d2814b494b601267588edef4a1fc85a9f74f031b10afe82d", func := "wharfinger/wharfingerlaw03.StringsLong", spec := "stringsLong", unfollowed := true, recurses := true, apart := false }
def StringsLongSaid : Prop := stringsLongRow.holds Try.pinned (OpenSpec.ofChange stringsLongSpec)

/-- ITS FALSE NEIGHBOUR: 'it returns false'. Refute it at one input. -/
def stringsLongWrong : ChangeSpec := { name := "stringsLong", fn := fun _ => fun
  | [d1, d2] => { results := [.lit (.bool false)], args := [d1, d2] }
  | _ => none }
def StringsLongWrongFalsely : Prop := stringsLongRow.holds Try.pinned (OpenSpec.ofChange stringsLongWrong)

/-- 'wharfingerlaw05.CredsIns': WHATEVER THE INPUT: true; the input reads as it did. -/
def credsInsSpec : ChangeSpec := { name := "credsIns", fn := fun _ => fun
  | [d1, d2] => { results := [.lit (.bool true)], args := [d1, d2] }
  | _ => none }
def credsInsRow : OpenClaim := { program := "ytncplnobmiljfaa", sum := "14caba2111c00865d2814b494b601267588edef4a1fc85a9f74f031b10afe82d", func := "wharfinger/wharfingerlaw05.CredsIns", spec := "credsIns", apart := false }
def CredsInsSaid : Prop := credsInsRow.holds Try.pinned (OpenSpec.ofChange credsInsSpec)

/-- ITS FALSE NEIGHBOUR: 'it returns false'. Refute it at one input. -/
def credsInsWrong : ChangeSpec := { name := "credsIns", fn := fun _ => fun
  | [d1, d2] => { results := [.lit (.bool false)], args := [d1, d2] }
  | _ => none }
def CredsInsWrongFalsely : Prop := credsInsRow.holds Try.pinned (OpenSpec.ofChange credsInsWrong)

/-- 'wharfingerlaw05.CredsBack': WHATEVER THE INPUT: true; the input reads as it did. -/
def credsBackSpec : ChangeSpec := { name := "credsBack", fn := fun _ => fun
  | [d1, d2, d3] => { results := [.lit (.bool true)], args := [d1, d2, d3] }
  | _ => none }
def credsBackRow : OpenClaim := { program := "ytncplnobmiljfaa", sum := "14caba2111c00865d2814b494b601267588edef4a1fc85a9f74f031b10afe82d", func := "wharfinger/wharfingerlaw05.CredsBack", spec := "credsBack", unfollowed := true, recurses := true, apart := false }
def CredsBackSaid : Prop := credsBackRow.holds Try.pinned (OpenSpec.ofChange credsBackSpec)

/-- ITS FALSE NEIGHBOUR: 'it returns false'. Refute it at one input. -/
def credsBackWrong : ChangeSpec := { name := "credsBack", fn := fun _ => fun
  | [d1, d2, d3] => { results := [.lit (.bool false)], args := [d1, d2, d3] }
  | _ => none }
def CredsBackWrongFalsely : Prop := credsBackRow.holds Try.pinned (OpenSpec.ofChange credsBackWrong)

/-- 'wharfingerlaw05.CredsAgain': WHATEVER THE INPUT: true; the input reads as it did. -/
def credsAgainSpec : ChangeSpec := { name := "credsAgain", fn := fun _ => fun
  | [d] => { results := [.lit (.bool true)], args := [d] }
  | _ => none }
def credsAgainRow : OpenClaim := { program := "ytncplnobmiljfaa", sum := "14caba2111c00865d2814b494b601267588edef4a1fc85a9f74f031b10afe82d", func := "wharfinger/wharfingerlaw05.CredsAgain", spec := "credsAgain", unfollowed := true, recurses := true, apart := false }
def CredsAgainSaid : Prop := credsAgainRow.holds Try.pinned (OpenSpec.ofChange credsAgainSpec)

/-- ITS FALSE NEIGHBOUR: 'it returns false'. Refute it at one input. -/
def credsAgainWrong : ChangeSpec := { name := "credsAgain", fn := fun _ => fun
  | [d] => { results := [.lit (.bool false)], args := [d] }
  | _ => none }
def CredsAgainWrongFalsely : Prop := credsAgainRow.holds Try.pinned (OpenSpec.ofChange credsAgainWrong)

/-- 'wharfingerlaw05.CredsParts': WHATEVER THE INPUT: true; the input reads as it did. -/
def credsPartsSpec : ChangeSpec := { name := "credsParts", fn := fun _ => fun
  | [d1, d2, d3] => { results := [.lit (.bool true)], args := [d1, d2, d3] }
  | _ => none }
def credsPartsRow : OpenClaim := { program := "ytncplnobmiljfaa", sum := "14caba2111c00865d2814b494b601267588edef4a1fc85a9f74f031b10afe82d", func := "wharfinger/wharfingerlaw05.CredsParts", spec := "credsParts", unfollowed := true, recurses := true, apart := false }
def CredsPartsSaid : Prop := credsPartsRow.holds Try.pinned (OpenSpec.ofChange credsPartsSpec)

/-- ITS FALSE NEIGHBOUR: 'it returns false'. Refute it at one input. -/
def credsPartsWrong : ChangeSpec := { name := "credsParts", fn := fun _ => fun
  | [d1, d2, d3] => { results := [.lit (.bool false)], args := [d1, d2, d3] }
  | _ => none }
def CredsPartsWrongFalsely : Prop := credsPartsRow.holds Try.pinned (OpenSpec.ofChange credsPartsWrong)

/-- 'wharfingerlaw05.CredsMore': WHATEVER THE INPUT: true; the input reads as it did. -/
def credsMoreSpec : ChangeSpec := { name := "credsMore", fn := fun _ => fun
  | [d1, d2, d3] => { results := [.lit (.bool true)], args := [d1, d2, d3] }
  | _ => none }
def credsMoreRow : OpenClaim := { program := "ytncplnobmiljfaa", sum := "14caba2111c00865d2814b494b601267588edef4a1fc85a9f74f031b10afe82d", func := "wharfinger/wharfingerlaw05.CredsMore", spec := "credsMore", unfollowed := true, recurses := true, apart := false }
def CredsMoreSaid : Prop := credsMoreRow.holds Try.pinned (OpenSpec.ofChange credsMoreSpec)

/-- ITS FALSE NEIGHBOUR: 'it returns false'. Refute it at one input. -/
def credsMoreWrong : ChangeSpec := { name := "credsMore", fn := fun _ => fun
  | [d1, d2, d3] => { results := [.lit (.bool false)], args := [d1, d2, d3] }
  | _ => none }
def CredsMoreWrongFalsely : Prop := credsMoreRow.holds Try.pinned (OpenSpec.ofChange credsMoreWrong)

/-- 'wharfingerlaw05.CredsMany': WHATEVER THE INPUT: true; the input reads as it did. -/
def credsManySpec : ChangeSpec := { name := "credsMany", fn := fun _ => fun
  | [d1, d2] => { results := [.lit (.bool true)], args := [d1, d2] }
  | _ => none }
def credsManyRow : OpenClaim := { program := "ytncplnobmiljfaa", sum := "14caba2111c00865d2814b494b601267588edef4a1fc85a9f74f031b10afe82d", func := "wharfinger/wharfingerlaw05.CredsMany", spec := "credsMany", unfollowed := true, recurses := true, apart := false }
def CredsManySaid : Prop := credsManyRow.holds Try.pinned (OpenSpec.ofChange credsManySpec)

/-- ITS FALSE NEIGHBOUR: 'it returns false'. Refute it at one input. -/
def credsManyWrong : ChangeSpec := { name := "credsMany", fn := fun _ => fun
  | [d1, d2] => { results := [.lit (.bool false)], args := [d1, d2] }
  | _ => none }
def CredsManyWrongFalsely : Prop := credsManyRow.holds Try.pinned (OpenSpec.ofChange credsManyWrong)

/-- 'wharfingerlaw06.CallsBack': WHATEVER THE INPUT: true; the input reads as it did. -/
def callsBackSpec : ChangeSpec := { name := "callsBack", fn := fun _ => fun
  | [d1, d2] => { results := [.lit (.bool true)], args := [d1, d2] }
  | _ => none }
def callsBackRow : OpenClaim := { program := "ytncplnobmiljfaa", sum := "14caba2111c00865d2814b494b601267588edef4a1fc85a9f74f031b10afe82d", func := "wharfinger/wharfingerlaw06.CallsBack", spec := "callsBack", unfollowed := true, recurses := true, apart := false }
def CallsBackSaid : Prop := callsBackRow.holds Try.pinned (OpenSpec.ofChange callsBackSpec)

/-- ITS FALSE NEIGHBOUR: 'it returns false'. Refute it at one input. -/
def callsBackWrong : ChangeSpec := { name := "callsBack", fn := fun _ => fun
  | [d1, d2] => { results := [.lit (.bool false)], args := [d1, d2] }
  | _ => none }
def CallsBackWrongFalsely : Prop := callsBackRow.holds Try.pinned (OpenSpec.ofChange callsBackWrong)

/-- 'wharfingerlaw06.CallsAgain': WHATEVER THE INPUT: true; the input reads as it did. -/
def callsAgainSpec : ChangeSpec := { name := "callsAgain", fn := fun _ => fun
  | [d] => { results := [.lit (.bool true)], args := [d] }
  | _ => none }
def callsAgainRow : OpenClaim := { program := "ytncplnobmiljfaa", sum := "14caba2111c00865d2814b494b601267588edef4a1fc85a9f74f031b10afe82d", func := "wharfinger/wharfingerlaw06.CallsAgain", spec := "callsAgain", unfollowed := true, recurses := true, apart := false }
def CallsAgainSaid : Prop := callsAgainRow.holds Try.pinned (OpenSpec.ofChange callsAgainSpec)

/-- ITS FALSE NEIGHBOUR: 'it returns false'. Refute it at one input. -/
def callsAgainWrong : ChangeSpec := { name := "callsAgain", fn := fun _ => fun
  | [d] => { results := [.lit (.bool false)], args := [d] }
  | _ => none }
def CallsAgainWrongFalsely : Prop := callsAgainRow.holds Try.pinned (OpenSpec.ofChange callsAgainWrong)

/-- 'wharfingerlaw06.CallsParts': WHATEVER THE INPUT: true; the input reads as it did. -/
def callsPartsSpec : ChangeSpec := { name := "callsParts", fn := fun _ => fun
  | [d] => { results := [.lit (.bool true)], args := [d] }
  | _ => none }
def callsPartsRow : OpenClaim := { program := "ytncplnobmiljfaa", sum := "14caba2111c00865d2814b494b601267588edef4a1fc85a9f74f031b10afe82d", func := "wharfinger/wharfingerlaw06.CallsParts", spec := "callsParts", unfollowed := true, recurses := true, apart := false }
def CallsPartsSaid : Prop := callsPartsRow.holds Try.pinned (OpenSpec.ofChange callsPartsSpec)

/-- ITS FALSE NEIGHBOUR: 'it returns false'. Refute it at one input. -/
def callsPartsWrong : ChangeSpec := { name := "callsParts", fn := fun _ => fun
  | [d] => { results := [.lit (.bool false)], args := [d] }
  | _ => none }
def CallsPartsWrongFalsely : Prop := callsPartsRow.holds Try.pinned (OpenSpec.ofChange callsPartsWrong)

/-- 'wharfingerlaw06.CallsFixed': WHATEVER THE INPUT: true; the input reads as it did. -/
def callsFixedSpec : ChangeSpec := { name := "callsFixed", fn := fun _ => fun
  | [d1, d2] => { results := [.lit (.bool true)], args := [d1, d2] }
  | _ => none }
def callsFixedRow : OpenClaim := { program := "ytncplnobmiljfaa", sum := "14caba2111c00865d2814b494b601267588edef4a1fc85a9f74f031b10afe82d", func := "wharfinger/wharfingerlaw06.CallsFixed", spec := "callsFixed", unfollowed := true, recurses := true, apart := false }
def CallsFixedSaid : Prop := callsFixedRow.holds Try.pinned (OpenSpec.ofChange callsFixedSpec)

/-- ITS FALSE NEIGHBOUR: 'it returns false'. Refute it at one input. -/
def callsFixedWrong : ChangeSpec := { name := "callsFixed", fn := fun _ => fun
  | [d1, d2] => { results := [.lit (.bool false)], args := [d1, d2] }
  | _ => none }
def CallsFixedWrongFalsely : Prop := callsFixedRow.holds Try.pinned (OpenSpec.ofChange callsFixedWrong)

/-- 'wharfingerlaw06.CallsNobody': WHATEVER THE INPUT: true; the input reads as it did. -/
def callsNobodySpec : ChangeSpec := { name := "callsNobody", fn := fun _ => fun
  | [d] => { results := [.lit (.bool true)], args := [d] }
  | _ => none }
def callsNobodyRow : OpenClaim := { program := "ytncplnobmiljfaa", sum := "14caba2111c00865d2814b494b601267588edef4a1fc85a9f74f031b10afe82d", func := "wharfinger/wharfingerlaw06.CallsNobody", spec := "callsNobody", unfollowed := true, recurses := true, apart := false }
def CallsNobodySaid : Prop := callsNobodyRow.holds Try.pinned (OpenSpec.ofChange callsNobodySpec)

/-- ITS FALSE NEIGHBOUR: 'it returns false'. Refute it at one input. -/
def callsNobodyWrong : ChangeSpec := { name := "callsNobody", fn := fun _ => fun
  | [d] => { results := [.lit (.bool false)], args := [d] }
  | _ => none }
def CallsNobodyWrongFalsely : Prop := callsNobodyRow.holds Try.pinned (OpenSpec.ofChange callsNobodyWrong)

/-- 'wharfingerlaw15.AccessEach': WHATEVER THE INPUT: true; the input reads as it did. -/
def accessEachSpec : ChangeSpec := { name := "accessEach", fn := fun _ => fun
  | [d] => { results := [.lit (.bool true)], args := [d] }
  | _ => none }
def accessEachRow : OpenClaim := { program := "ytncplnobmiljfaa", sum := "14caba2111c00865d2814b494b601267588edef4a1fc85a9f74f031b10afe82d", func := "wharfinger/wharfingerlaw15.AccessEach", spec := "accessEach", unfollowed := true, recurses := true, apart := false }
def AccessEachSaid : Prop := accessEachRow.holds Try.pinned (OpenSpec.ofChange accessEachSpec)

/-- ITS FALSE NEIGHBOUR: 'it returns false'. Refute it at one input. -/
def accessEachWrong : ChangeSpec := { name := "accessEach", fn := fun _ => fun
  | [d] => { results := [.lit (.bool false)], args := [d] }
  | _ => none }
def AccessEachWrongFalsely : Prop := accessEachRow.holds Try.pinned (OpenSpec.ofChange accessEachWrong)

/-- 'wharfingerlaw15.AccessOthers': WHATEVER THE INPUT: true; the input reads as it did. -/
def accessOthersSpec : ChangeSpec := { name := "accessOthers", fn := fun _ => fun
  | [d1, d2, d3] => { results := [.lit (.bool true)], args := [d1, d2, d3] }
  | _ => none }
def accessOthersRow : OpenClaim := { program := "ytncplnobmiljfaa", sum := "14caba2111c00865d2814b494b601267588edef4a1fc85a9f74f031b10afe82d", func := "wharfinger/wharfingerlaw15.AccessOthers", spec := "accessOthers", unfollowed := true, recurses := true, apart := false }
def AccessOthersSaid : Prop := accessOthersRow.holds Try.pinned (OpenSpec.ofChange accessOthersSpec)

/-- ITS FALSE NEIGHBOUR: 'it returns false'. Refute it at one input. -/
def accessOthersWrong : ChangeSpec := { name := "accessOthers", fn := fun _ => fun
  | [d1, d2, d3] => { results := [.lit (.bool false)], args := [d1, d2, d3] }
  | _ => none }
def AccessOthersWrongFalsely : Prop := accessOthersRow.holds Try.pinned (OpenSpec.ofChange accessOthersWrong)

/-- 'wharfingerlaw16.GuardTwice': WHATEVER THE INPUT: true; the input reads as it did. -/
def guardTwiceSpec : ChangeSpec := { name := "guardTwice", fn := fun _ => fun
  | [d] => { results := [.lit (.bool true)], args := [d] }
  | _ => none }
def guardTwiceRow : OpenClaim := { program := "ytncplnobmiljfaa", sum := "14caba2111c00865d2814b494b601267588edef4a1fc85a9f74f031b10afe82d", func := "wharfinger/wharfingerlaw16.GuardTwice", spec := "guardTwice", unfollowed := true, recurses := true, apart := false }
def GuardTwiceSaid : Prop := guardTwiceRow.holds Try.pinned (OpenSpec.ofChange guardTwiceSpec)

/-- ITS FALSE NEIGHBOUR: 'it returns false'. Refute it at one input. -/
def guardTwiceWrong : ChangeSpec := { name := "guardTwice", fn := fun _ => fun
  | [d] => { results := [.lit (.bool false)], args := [d] }
  | _ => none }
def GuardTwiceWrongFalsely : Prop := guardTwiceRow.holds Try.pinned (OpenSpec.ofChange guardTwiceWrong)

/-- 'wharfingerlaw16.GuardKeeps': WHATEVER THE INPUT: true; the input reads as it did. -/
def guardKeepsSpec : ChangeSpec := { name := "guardKeeps", fn := fun _ => fun
  | [d] => { results := [.lit (.bool true)], args := [d] }
  | _ => none }
def guardKeepsRow : OpenClaim := { program := "ytncplnobmiljfaa", sum := "14caba2111c00865d2814b494b601267588edef4a1fc85a9f74f031b10afe82d", func := "wharfinger/wharfingerlaw16.GuardKeeps", spec := "guardKeeps", unfollowed := true, recurses := true, apart := false }
def GuardKeepsSaid : Prop := guardKeepsRow.holds Try.pinned (OpenSpec.ofChange guardKeepsSpec)

/-- ITS FALSE NEIGHBOUR: 'it returns false'. Refute it at one input. -/
def guardKeepsWrong : ChangeSpec := { name := "guardKeeps", fn := fun _ => fun
  | [d] => { results := [.lit (.bool false)], args := [d] }
  | _ => none }
def GuardKeepsWrongFalsely : Prop := guardKeepsRow.holds Try.pinned (OpenSpec.ofChange guardKeepsWrong)

/- THE SECOND FORM. 'bulk': how many values and letters a reading holds, each counted each time it is reached (what is shared counts as often as it is met; a slice's spare places count too). A statement '..UptoSaid' is the law's where the arguments, and the package variables that the reading takes, are together of bulk at most 1048576: NARROWER than '..Said'. Prove '..Said' where nothing that the law and all that it calls make is longer than what came in: it says more and counts as full. Else prove '..UptoSaid'. A law counts once. -/
mutual
def uptoBulk {H : Type} : DataW H → Nat
  | .lit (.string bytes) => bytes.length + 1
  | .lit _ => 1
  | .nil => 1
  | .ptr d => uptoBulk d + 1
  | .slice elems spare => uptoBulkAll elems + uptoBulkAll spare + 1
  | .agg parts => uptoBulkAll parts + 1
  | .iface _ d => uptoBulk d + 1
  | .map entries => uptoBulkEntries entries + 1
  | .held _ => 1
def uptoBulkAll {H : Type} : List (DataW H) → Nat
  | [] => 0
  | d :: r => uptoBulk d + uptoBulkAll r
def uptoBulkEntries {H : Type} : List (Lit × DataW H) → Nat
  | [] => 0
  | x :: r => uptoBulkEntry x + uptoBulkEntries r
def uptoBulkEntry {H : Type} : Lit × DataW H → Nat
  | (.string bytes, d) => bytes.length + uptoBulk d + 1
  | (_, d) => uptoBulk d + 1
 end
def uptoSmall : (H : Type) → List (DataW H) → Bool := fun _ ds => decide (uptoBulkAll ds ≤ 1048576)
def OpenSpec.upto (s : _root_.Go.ChangeSpec) : _root_.Go.OpenSpec := { _root_.Go.OpenSpec.ofChange s with cond := some uptoSmall }

/-- 'wharfingerlaw03.StringsGets', WHERE WHAT IT READS IS OF BULK AT MOST 1048576: true; the input reads as it did. -/
def stringsGetsUptoRow : OpenClaim := { program := "ytncplnobmiljfaa", sum := "14caba2111c00865d2814b494b601267588edef4a1fc85a9f74f031b10afe82d", func := "wharfinger/wharfingerlaw03.StringsGets", spec := "stringsGets", apart := false, narrowed := true }
def StringsGetsUptoSaid : Prop := stringsGetsUptoRow.holds Try.pinned (OpenSpec.upto stringsGetsSpec)

/-- 'wharfingerlaw03.StringsBack', WHERE WHAT IT READS IS OF BULK AT MOST 1048576: true; the input reads as it did. -/
def stringsBackUptoRow : OpenClaim := { program := "ytncplnobmiljfaa", sum := "14caba2111c00865d2814b494b601267588edef4a1fc85a9f74f031b10afe82d", func := "wharfinger/wharfingerlaw03.StringsBack", spec := "stringsBack", unfollowed := true, recurses := true, apart := false, narrowed := true }
def StringsBackUptoSaid : Prop := stringsBackUptoRow.holds Try.pinned (OpenSpec.upto stringsBackSpec)

/-- 'wharfingerlaw03.StringsAgain', WHERE WHAT IT READS IS OF BULK AT MOST 1048576: true; the input reads as it did. -/
def stringsAgainUptoRow : OpenClaim := { program := "ytncplnobmiljfaa", sum := "14caba2111c00865d2814b494b601267588edef4a1fc85a9f74f031b10afe82d", func := "wharfinger/wharfingerlaw03.StringsAgain", spec := "stringsAgain", unfollowed := true, recurses := true, apart := false, narrowed := true }
def StringsAgainUptoSaid : Prop := stringsAgainUptoRow.holds Try.pinned (OpenSpec.upto stringsAgainSpec)

/-- 'wharfingerlaw03.StringsNames', WHERE WHAT IT READS IS OF BULK AT MOST 1048576: true; the input reads as it did. -/
def stringsNamesUptoRow : OpenClaim := { program := "ytncplnobmiljfaa", sum := "14caba2111c00865d2814b494b601267588edef4a1fc85a9f74f031b10afe82d", func := "wharfinger/wharfingerlaw03.StringsNames", spec := "stringsNames", unfollowed := true, recurses := true, apart := false, narrowed := true }
def StringsNamesUptoSaid : Prop := stringsNamesUptoRow.holds Try.pinned (OpenSpec.upto stringsNamesSpec)

/-- 'wharfingerlaw03.StringsBytes', WHERE WHAT IT READS IS OF BULK AT MOST 1048576: true; the input reads as it did. -/
def stringsBytesUptoRow : OpenClaim := { program := "ytncplnobmiljfaa", sum := "14caba2111c00865d2814b494b601267588edef4a1fc85a9f74f031b10afe82d", func := "wharfinger/wharfingerlaw03.StringsBytes", spec := "stringsBytes", unfollowed := true, recurses := true, apart := false, narrowed := true }
def StringsBytesUptoSaid : Prop := stringsBytesUptoRow.holds Try.pinned (OpenSpec.upto stringsBytesSpec)

/-- 'wharfingerlaw03.StringsLong', WHERE WHAT IT READS IS OF BULK AT MOST 1048576: true; the input reads as it did. -/
def stringsLongUptoRow : OpenClaim := { program := "ytncplnobmiljfaa", sum := "14caba2111c00865d2814b494b601267588edef4a1fc85a9f74f031b10afe82d", func := "wharfinger/wharfingerlaw03.StringsLong", spec := "stringsLong", unfollowed := true, recurses := true, apart := false, narrowed := true }
def StringsLongUptoSaid : Prop := stringsLongUptoRow.holds Try.pinned (OpenSpec.upto stringsLongSpec)

/-- 'wharfingerlaw05.CredsIns', WHERE WHAT IT READS IS OF BULK AT MOST 1048576: true; the input reads as it did. -/
def credsInsUptoRow : OpenClaim := { program := "ytncplnobmiljfaa", sum := "14caba2111c00865d2814b494b601267588edef4a1fc85a9f74f031b10afe82d", func := "wharfinger/wharfingerlaw05.CredsIns", spec := "credsIns", apart := false, narrowed := true }
def CredsInsUptoSaid : Prop := credsInsUptoRow.holds Try.pinned (OpenSpec.upto credsInsSpec)

/-- 'wharfingerlaw05.CredsBack', WHERE WHAT IT READS IS OF BULK AT MOST 1048576: true; the input reads as it did. -/
def credsBackUptoRow : OpenClaim := { program := "ytncplnobmiljfaa", sum := "14caba2111c00865d2814b494b601267588edef4a1fc85a9f74f031b10afe82d", func := "wharfinger/wharfingerlaw05.CredsBack", spec := "credsBack", unfollowed := true, recurses := true, apart := false, narrowed := true }
def CredsBackUptoSaid : Prop := credsBackUptoRow.holds Try.pinned (OpenSpec.upto credsBackSpec)

/-- 'wharfingerlaw05.CredsAgain', WHERE WHAT IT READS IS OF BULK AT MOST 1048576: true; the input reads as it did. -/
def credsAgainUptoRow : OpenClaim := { program := "ytncplnobmiljfaa", sum := "14caba2111c00865d2814b494b601267588edef4a1fc85a9f74f031b10afe82d", func := "wharfinger/wharfingerlaw05.CredsAgain", spec := "credsAgain", unfollowed := true, recurses := true, apart := false, narrowed := true }
def CredsAgainUptoSaid : Prop := credsAgainUptoRow.holds Try.pinned (OpenSpec.upto credsAgainSpec)

/-- 'wharfingerlaw05.CredsParts', WHERE WHAT IT READS IS OF BULK AT MOST 1048576: true; the input reads as it did. -/
def credsPartsUptoRow : OpenClaim := { program := "ytncplnobmiljfaa", sum := "14caba2111c00865d2814b494b601267588edef4a1fc85a9f74f031b10afe82d", func := "wharfinger/wharfingerlaw05.CredsParts", spec := "credsParts", unfollowed := true, recurses := true, apart := false, narrowed := true }
def CredsPartsUptoSaid : Prop := credsPartsUptoRow.holds Try.pinned (OpenSpec.upto credsPartsSpec)

/-- 'wharfingerlaw05.CredsMore', WHERE WHAT IT READS IS OF BULK AT MOST 1048576: true; the input reads as it did. -/
def credsMoreUptoRow : OpenClaim := { program := "ytncplnobmiljfaa", sum := "14caba2111c00865d2814b494b601267588edef4a1fc85a9f74f031b10afe82d", func := "wharfinger/wharfingerlaw05.CredsMore", spec := "credsMore", unfollowed := true, recurses := true, apart := false, narrowed := true }
def CredsMoreUptoSaid : Prop := credsMoreUptoRow.holds Try.pinned (OpenSpec.upto credsMoreSpec)

/-- 'wharfingerlaw05.CredsMany', WHERE WHAT IT READS IS OF BULK AT MOST 1048576: true; the input reads as it did. -/
def credsManyUptoRow : OpenClaim := { program := "ytncplnobmiljfaa", sum := "14caba2111c00865d2814b494b601267588edef4a1fc85a9f74f031b10afe82d", func := "wharfinger/wharfingerlaw05.CredsMany", spec := "credsMany", unfollowed := true, recurses := true, apart := false, narrowed := true }
def CredsManyUptoSaid : Prop := credsManyUptoRow.holds Try.pinned (OpenSpec.upto credsManySpec)

/-- 'wharfingerlaw06.CallsBack', WHERE WHAT IT READS IS OF BULK AT MOST 1048576: true; the input reads as it did. -/
def callsBackUptoRow : OpenClaim := { program := "ytncplnobmiljfaa", sum := "14caba2111c00865d2814b494b601267588edef4a1fc85a9f74f031b10afe82d", func := "wharfinger/wharfingerlaw06.CallsBack", spec := "callsBack", unfollowed := true, recurses := true, apart := false, narrowed := true }
def CallsBackUptoSaid : Prop := callsBackUptoRow.holds Try.pinned (OpenSpec.upto callsBackSpec)

/-- 'wharfingerlaw06.CallsAgain', WHERE WHAT IT READS IS OF BULK AT MOST 1048576: true; the input reads as it did. -/
def callsAgainUptoRow : OpenClaim := { program := "ytncplnobmiljfaa", sum := "14caba2111c00865d2814b494b601267588edef4a1fc85a9f74f031b10afe82d", func := "wharfinger/wharfingerlaw06.CallsAgain", spec := "callsAgain", unfollowed := true, recurses := true, apart := false, narrowed := true }
def CallsAgainUptoSaid : Prop := callsAgainUptoRow.holds Try.pinned (OpenSpec.upto callsAgainSpec)

/-- 'wharfingerlaw06.CallsParts', WHERE WHAT IT READS IS OF BULK AT MOST 1048576: true; the input reads as it did. -/
def callsPartsUptoRow : OpenClaim := { program := "ytncplnobmiljfaa", sum := "14caba2111c00865d2814b494b601267588edef4a1fc85a9f74f031b10afe82d", func := "wharfinger/wharfingerlaw06.CallsParts", spec := "callsParts", unfollowed := true, recurses := true, apart := false, narrowed := true }
def CallsPartsUptoSaid : Prop := callsPartsUptoRow.holds Try.pinned (OpenSpec.upto callsPartsSpec)

/-- 'wharfingerlaw06.CallsFixed', WHERE WHAT IT READS IS OF BULK AT MOST 1048576: true; the input reads as it did. -/
def callsFixedUptoRow : OpenClaim := { program := "ytncplnobmiljfaa", sum := "14caba2111c00865d2814b494b601267588edef4a1fc85a9f74f031b10afe82d", func := "wharfinger/wharfingerlaw06.CallsFixed", spec := "callsFixed", unfollowed := true, recurses := true, apart := false, narrowed := true }
def CallsFixedUptoSaid : Prop := callsFixedUptoRow.holds Try.pinned (OpenSpec.upto callsFixedSpec)

/-- 'wharfingerlaw06.CallsNobody', WHERE WHAT IT READS IS OF BULK AT MOST 1048576: true; the input reads as it did. -/
def callsNobodyUptoRow : OpenClaim := { program := "ytncplnobmiljfaa", sum := "14caba2111c00865d2814b494b601267588edef4a1fc85a9f74f031b10afe82d", func := "wharfinger/wharfingerlaw06.CallsNobody", spec := "callsNobody", unfollowed := true, recurses := true, apart := false, narrowed := true }
def CallsNobodyUptoSaid : Prop := callsNobodyUptoRow.holds Try.pinned (OpenSpec.upto callsNobodySpec)

/-- 'wharfingerlaw15.AccessEach', WHERE WHAT IT READS IS OF BULK AT MOST 1048576: true; the input reads as it did. -/
def accessEachUptoRow : OpenClaim := { program := "ytncplnobmiljfaa", sum := "14caba2111c00865d2814b494b601267588edef4a1fc85a9f74f031b10afe82d", func := "wharfinger/wharfingerlaw15.AccessEach", spec := "accessEach", unfollowed := true, recurses := true, apart := false, narrowed := true }
def AccessEachUptoSaid : Prop := accessEachUptoRow.holds Try.pinned (OpenSpec.upto accessEachSpec)

/-- 'wharfingerlaw15.AccessOthers', WHERE WHAT IT READS IS OF BULK AT MOST 1048576: true; the input reads as it did. -/
def accessOthersUptoRow : OpenClaim := { program := "ytncplnobmiljfaa", sum := "14caba2111c00865d2814b494b601267588edef4a1fc85a9f74f031b10afe82d", func := "wharfinger/wharfingerlaw15.AccessOthers", spec := "accessOthers", unfollowed := true, recurses := true, apart := false, narrowed := true }
def AccessOthersUptoSaid : Prop := accessOthersUptoRow.holds Try.pinned (OpenSpec.upto accessOthersSpec)

/-- 'wharfingerlaw16.GuardTwice', WHERE WHAT IT READS IS OF BULK AT MOST 1048576: true; the input reads as it did. -/
def guardTwiceUptoRow : OpenClaim := { program := "ytncplnobmiljfaa", sum := "14caba2111c00865d2814b494b601267588edef4a1fc85a9f74f031b10afe82d", func := "wharfinger/wharfingerlaw16.GuardTwice", spec := "guardTwice", unfollowed := true, recurses := true, apart := false, narrowed := true }
def GuardTwiceUptoSaid : Prop := guardTwiceUptoRow.holds Try.pinned (OpenSpec.upto guardTwiceSpec)

/-- 'wharfingerlaw16.GuardKeeps', WHERE WHAT IT READS IS OF BULK AT MOST 1048576: true; the input reads as it did. -/
def guardKeepsUptoRow : OpenClaim := { program := "ytncplnobmiljfaa", sum := "14caba2111c00865d2814b494b601267588edef4a1fc85a9f74f031b10afe82d", func := "wharfinger/wharfingerlaw16.GuardKeeps", spec := "guardKeeps", unfollowed := true, recurses := true, apart := false, narrowed := true }
def GuardKeepsUptoSaid : Prop := guardKeepsUptoRow.holds Try.pinned (OpenSpec.upto guardKeepsSpec)

end Rows
end Go.Proofs.Ytncplnobmiljfaa
