/-
  DERIVED. GIVEN WITH THE SEED: THE CARDS: each row of YtoalknneifpehaaDoorRows.lean that lists a variable, with what it lists TIED to the program's text (the seventh form; the later family's looks); each row that meets fmt, with fmt's text TOLD by the authors' own Lean function (tested against real Go, not proved from fmt's source: count such statements apart). THE CARD IS WHAT COUNTS. Prove the row's statement (the work); the ties are given (YtoalknneifpehaaDoorTie.lean); close each card by the builder's one call (the guide's Derived/Test/ToyasCard.lean, 'card_holds'). Laid BY PROGRAM, IN A SANDBOX (cutbox-door.mjs). By AI agents, Wed Nov 11 2026. No macro, syntax, notation, axiom, sorry.
-/
import Derived.Test.YtoalknneifpehaaDoorRows
import GoSem.ClaimSeven
namespace Go.Proofs.YtoalknneifpehaaDoor
namespace Rows

/-- THE TIED CARD OF 'wharfingerlaw06.CallsPuts'. -/
def callsPutsCard : Claim7 := { stood := { row := callsPutsRow, standIns := [], harness := (true, "94b927f309e8c1d7e5420981da4852627f1a46792890b5f6766805384cd46b1a"), looks := false }, kinds := [], alts := [], laidByText := true, laidKinds := [.data, .data, .data], laidTests := true, laidLooks := .later }
def CallsPutsCardSaid : Prop := Claim7.holds Tryd.pinned (.plain (OpenSpec.ofChange callsPutsSpec)) callsPutsCard

/-- THE TIED CARD OF 'wharfingerlaw06.CallsGets'. -/
def callsGetsCard : Claim7 := { stood := { row := callsGetsRow, standIns := [], harness := (true, "94b927f309e8c1d7e5420981da4852627f1a46792890b5f6766805384cd46b1a"), looks := false }, kinds := [], alts := [], laidByText := true, laidKinds := [.data, .data, .data], laidTests := true, laidLooks := .later }
def CallsGetsCardSaid : Prop := Claim7.holds Tryd.pinned (.plain (OpenSpec.ofChange callsGetsSpec)) callsGetsCard

/-- THE SECOND FORM's CARD OF 'wharfingerlaw06.CallsPuts'. -/
def callsPutsUptoCard : Claim7 := { stood := { row := callsPutsUptoRow, standIns := [], harness := (true, "94b927f309e8c1d7e5420981da4852627f1a46792890b5f6766805384cd46b1a"), looks := false }, kinds := [], alts := [], laidByText := true, laidKinds := [.data, .data, .data], laidTests := true, laidLooks := .later }
def CallsPutsUptoCardSaid : Prop := Claim7.holds Tryd.pinned (.plain (OpenSpec.upto callsPutsSpec)) callsPutsUptoCard

/-- THE SECOND FORM's CARD OF 'wharfingerlaw06.CallsGets'. -/
def callsGetsUptoCard : Claim7 := { stood := { row := callsGetsUptoRow, standIns := [], harness := (true, "94b927f309e8c1d7e5420981da4852627f1a46792890b5f6766805384cd46b1a"), looks := false }, kinds := [], alts := [], laidByText := true, laidKinds := [.data, .data, .data], laidTests := true, laidLooks := .later }
def CallsGetsUptoCardSaid : Prop := Claim7.holds Tryd.pinned (.plain (OpenSpec.upto callsGetsSpec)) callsGetsUptoCard
end Rows
end Go.Proofs.YtoalknneifpehaaDoor
