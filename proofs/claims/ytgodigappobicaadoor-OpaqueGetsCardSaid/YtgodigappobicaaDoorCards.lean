/-
  DERIVED. GIVEN WITH THE SEED: THE CARDS: each row of YtgodigappobicaaDoorRows.lean that lists a variable, with what it lists TIED to the program's text (the seventh form; the later family's looks); each row that meets fmt, with fmt's text TOLD by the authors' own Lean function (tested against real Go, not proved from fmt's source: count such statements apart). THE CARD IS WHAT COUNTS. Prove the row's statement (the work); the ties are given (YtgodigappobicaaDoorTie.lean); close each card by the builder's one call (the guide's Derived/Test/ToyasCard.lean, 'card_holds'). Laid BY PROGRAM, IN A SANDBOX (cutbox-door.mjs). By AI agents, Wed Nov 11 2026. No macro, syntax, notation, axiom, sorry.
-/
import Derived.Test.YtgodigappobicaaDoorRows
import GoSem.ClaimSeven
namespace Go.Proofs.YtgodigappobicaaDoor
namespace Rows

/-- THE TIED CARD OF 'wharfingerlaw02.OpaquePuts'. -/
def opaquePutsCard : Claim7 := { stood := { row := opaquePutsRow, standIns := [], harness := (true, "5d284e8a07f99a574988393b6f35631aa93ab5ce7e172aa5a156847d6b480c88"), looks := false }, kinds := [], alts := [], laidByText := true, laidKinds := [.data, .data, .data], laidTests := true, laidLooks := .later }
def OpaquePutsCardSaid : Prop := Claim7.holds Tryd.pinned (.plain (OpenSpec.ofChange opaquePutsSpec)) opaquePutsCard

/-- THE TIED CARD OF 'wharfingerlaw02.OpaqueGets'. -/
def opaqueGetsCard : Claim7 := { stood := { row := opaqueGetsRow, standIns := [], harness := (true, "5d284e8a07f99a574988393b6f35631aa93ab5ce7e172aa5a156847d6b480c88"), looks := false }, kinds := [], alts := [], laidByText := true, laidKinds := [.data, .data, .data], laidTests := true, laidLooks := .later }
def OpaqueGetsCardSaid : Prop := Claim7.holds Tryd.pinned (.plain (OpenSpec.ofChange opaqueGetsSpec)) opaqueGetsCard

/-- THE TIED CARD OF 'wharfingerlaw02.OpaqueFixed'. -/
def opaqueFixedCard : Claim7 := { stood := { row := opaqueFixedRow, standIns := [], harness := (true, "5d284e8a07f99a574988393b6f35631aa93ab5ce7e172aa5a156847d6b480c88"), looks := false }, kinds := [], alts := [], laidByText := true, laidKinds := [.data, .data, .data], laidTests := true, laidLooks := .later }
def OpaqueFixedCardSaid : Prop := Claim7.holds Tryd.pinned (.plain (OpenSpec.ofChange opaqueFixedSpec)) opaqueFixedCard

/-- THE SECOND FORM's CARD OF 'wharfingerlaw02.OpaquePuts'. -/
def opaquePutsUptoCard : Claim7 := { stood := { row := opaquePutsUptoRow, standIns := [], harness := (true, "5d284e8a07f99a574988393b6f35631aa93ab5ce7e172aa5a156847d6b480c88"), looks := false }, kinds := [], alts := [], laidByText := true, laidKinds := [.data, .data, .data], laidTests := true, laidLooks := .later }
def OpaquePutsUptoCardSaid : Prop := Claim7.holds Tryd.pinned (.plain (OpenSpec.upto opaquePutsSpec)) opaquePutsUptoCard

/-- THE SECOND FORM's CARD OF 'wharfingerlaw02.OpaqueGets'. -/
def opaqueGetsUptoCard : Claim7 := { stood := { row := opaqueGetsUptoRow, standIns := [], harness := (true, "5d284e8a07f99a574988393b6f35631aa93ab5ce7e172aa5a156847d6b480c88"), looks := false }, kinds := [], alts := [], laidByText := true, laidKinds := [.data, .data, .data], laidTests := true, laidLooks := .later }
def OpaqueGetsUptoCardSaid : Prop := Claim7.holds Tryd.pinned (.plain (OpenSpec.upto opaqueGetsSpec)) opaqueGetsUptoCard

/-- THE SECOND FORM's CARD OF 'wharfingerlaw02.OpaqueFixed'. -/
def opaqueFixedUptoCard : Claim7 := { stood := { row := opaqueFixedUptoRow, standIns := [], harness := (true, "5d284e8a07f99a574988393b6f35631aa93ab5ce7e172aa5a156847d6b480c88"), looks := false }, kinds := [], alts := [], laidByText := true, laidKinds := [.data, .data, .data], laidTests := true, laidLooks := .later }
def OpaqueFixedUptoCardSaid : Prop := Claim7.holds Tryd.pinned (.plain (OpenSpec.upto opaqueFixedSpec)) opaqueFixedUptoCard
end Rows
end Go.Proofs.YtgodigappobicaaDoor
