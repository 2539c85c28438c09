/-
  DERIVED. GIVEN WITH THE SEED: THE CARDS: each row of YtncplnobmiljfaaDoorRows.lean that lists a variable, with what it lists TIED to the program's text (the seventh form; the later family's looks); each row that meets fmt, with fmt's text TOLD by the authors' own Lean function (tested against real Go, not proved from fmt's source: count such statements apart). THE CARD IS WHAT COUNTS. Prove the row's statement (the work); the ties are given (YtncplnobmiljfaaDoorTie.lean); close each card by the builder's one call (the guide's Derived/Test/ToyasCard.lean, 'card_holds'). Laid BY PROGRAM, IN A SANDBOX (cutbox-door.mjs). By AI agents, Wed Nov 11 2026. No macro, syntax, notation, axiom, sorry.
-/
import Derived.Test.YtncplnobmiljfaaDoorRows
import GoSem.ClaimSeven
namespace Go.Proofs.YtncplnobmiljfaaDoor
namespace Rows

/-- THE TIED CARD OF 'wharfingerlaw03.StringsPuts'. -/
def stringsPutsCard : Claim7 := { stood := { row := stringsPutsRow, standIns := [], harness := (true, "97ebe0a6fb3728104eb92119a7d7887e0543a9b8e8c0582e3cd86d7f12bd221e"), looks := false }, kinds := [], alts := [], laidByText := true, laidKinds := [.data, .data, .data], laidTests := true, laidLooks := .later }
def StringsPutsCardSaid : Prop := Claim7.holds Tryd.pinned (.plain (OpenSpec.ofChange stringsPutsSpec)) stringsPutsCard

/-- THE TIED CARD OF 'wharfingerlaw05.CredsPuts'. -/
def credsPutsCard : Claim7 := { stood := { row := credsPutsRow, standIns := [], harness := (true, "97ebe0a6fb3728104eb92119a7d7887e0543a9b8e8c0582e3cd86d7f12bd221e"), looks := false }, kinds := [], alts := [], laidByText := true, laidKinds := [.data, .data, .data], laidTests := true, laidLooks := .later }
def CredsPutsCardSaid : Prop := Claim7.holds Tryd.pinned (.plain (OpenSpec.ofChange credsPutsSpec)) credsPutsCard

/-- THE TIED CARD OF 'wharfingerlaw05.CredsGets'. -/
def credsGetsCard : Claim7 := { stood := { row := credsGetsRow, standIns := [], harness := (true, "97ebe0a6fb3728104eb92119a7d7887e0543a9b8e8c0582e3cd86d7f12bd221e"), looks := false }, kinds := [], alts := [], laidByText := true, laidKinds := [.data, .data, .data], laidTests := true, laidLooks := .later }
def CredsGetsCardSaid : Prop := Claim7.holds Tryd.pinned (.plain (OpenSpec.ofChange credsGetsSpec)) credsGetsCard

/-- THE TIED CARD OF 'wharfingerlaw06.CallsPuts'. -/
def callsPutsCard : Claim7 := { stood := { row := callsPutsRow, standIns := [], harness := (true, "97ebe0a6fb3728104eb92119a7d7887e0543a9b8e8c0582e3cd86d7f12bd221e"), looks := false }, kinds := [], alts := [], laidByText := true, laidKinds := [.data, .data, .data], laidTests := true, laidLooks := .later }
def CallsPutsCardSaid : Prop := Claim7.holds Tryd.pinned (.plain (OpenSpec.ofChange callsPutsSpec)) callsPutsCard

/-- THE TIED CARD OF 'wharfingerlaw06.CallsGets'. -/
def callsGetsCard : Claim7 := { stood := { row := callsGetsRow, standIns := [], harness := (true, "97ebe0a6fb3728104eb92119a7d7887e0543a9b8e8c0582e3cd86d7f12bd221e"), looks := false }, kinds := [], alts := [], laidByText := true, laidKinds := [.data, .data, .data], laidTests := true, laidLooks := .later }
def CallsGetsCardSaid : Prop := Claim7.holds Tryd.pinned (.plain (OpenSpec.ofChange callsGetsSpec)) callsGetsCard

/-- THE SECOND FORM's CARD OF 'wharfingerlaw03.StringsPuts'. -/
def stringsPutsUptoCard : Claim7 := { stood := { row := stringsPutsUptoRow, standIns := [], harness := (true, "97ebe0a6fb3728104eb92119a7d7887e0543a9b8e8c0582e3cd86d7f12bd221e"), looks := false }, kinds := [], alts := [], laidByText := true, laidKinds := [.data, .data, .data], laidTests := true, laidLooks := .later }
def StringsPutsUptoCardSaid : Prop := Claim7.holds Tryd.pinned (.plain (OpenSpec.upto stringsPutsSpec)) stringsPutsUptoCard

/-- THE SECOND FORM's CARD OF 'wharfingerlaw05.CredsPuts'. -/
def credsPutsUptoCard : Claim7 := { stood := { row := credsPutsUptoRow, standIns := [], harness := (true, "97ebe0a6fb3728104eb92119a7d7887e0543a9b8e8c0582e3cd86d7f12bd221e"), looks := false }, kinds := [], alts := [], laidByText := true, laidKinds := [.data, .data, .data], laidTests := true, laidLooks := .later }
def CredsPutsUptoCardSaid : Prop := Claim7.holds Tryd.pinned (.plain (OpenSpec.upto credsPutsSpec)) credsPutsUptoCard

/-- THE SECOND FORM's CARD OF 'wharfingerlaw05.CredsGets'. -/
def credsGetsUptoCard : Claim7 := { stood := { row := credsGetsUptoRow, standIns := [], harness := (true, "97ebe0a6fb3728104eb92119a7d7887e0543a9b8e8c0582e3cd86d7f12bd221e"), looks := false }, kinds := [], alts := [], laidByText := true, laidKinds := [.data, .data, .data], laidTests := true, laidLooks := .later }
def CredsGetsUptoCardSaid : Prop := Claim7.holds Tryd.pinned (.plain (OpenSpec.upto credsGetsSpec)) credsGetsUptoCard

/-- THE SECOND FORM's CARD OF 'wharfingerlaw06.CallsPuts'. -/
def callsPutsUptoCard : Claim7 := { stood := { row := callsPutsUptoRow, standIns := [], harness := (true, "97ebe0a6fb3728104eb92119a7d7887e0543a9b8e8c0582e3cd86d7f12bd221e"), looks := false }, kinds := [], alts := [], laidByText := true, laidKinds := [.data, .data, .data], laidTests := true, laidLooks := .later }
def CallsPutsUptoCardSaid : Prop := Claim7.holds Tryd.pinned (.plain (OpenSpec.upto callsPutsSpec)) callsPutsUptoCard

/-- THE SECOND FORM's CARD OF 'wharfingerlaw06.CallsGets'. -/
def callsGetsUptoCard : Claim7 := { stood := { row := callsGetsUptoRow, standIns := [], harness := (true, "97ebe0a6fb3728104eb92119a7d7887e0543a9b8e8c0582e3cd86d7f12bd221e"), looks := false }, kinds := [], alts := [], laidByText := true, laidKinds := [.data, .data, .data], laidTests := true, laidLooks := .later }
def CallsGetsUptoCardSaid : Prop := Claim7.holds Tryd.pinned (.plain (OpenSpec.upto callsGetsSpec)) callsGetsUptoCard
end Rows
end Go.Proofs.YtncplnobmiljfaaDoor
