/-
  DERIVED. GIVEN WITH THE SEED: THE CARDS: each row of YtnhhopmldgpglaaGreatDoorRows.lean that lists a variable, with what it lists TIED to the program's text (the seventh form; the later family's looks); each row that meets fmt, with fmt's text TOLD by the authors' own Lean function (tested against real Go, not proved from fmt's source: count such statements apart). THE CARD IS WHAT COUNTS. Prove the row's statement (the work); the ties are given (YtnhhopmldgpglaaGreatDoorTie.lean); close each card by the builder's one call (the guide's Derived/Test/ToyasCard.lean, 'card_holds'). Laid BY PROGRAM, IN A SANDBOX (cutbox-door.mjs). By AI agents, Wed Nov 11 2026. No macro, syntax, notation, axiom, sorry.
-/
import Derived.Test.YtnhhopmldgpglaaGreatDoorRows
import GoSem.ClaimSeven
namespace Go.Proofs.YtnhhopmldgpglaaGreatDoor
namespace Rows

/-- THE TIED CARD OF 'bitemporaltop.TopVersions'. -/
def topVersionsCard : Claim7 := { stood := { row := topVersionsRow, standIns := [], harness := (true, "a6ea98205c429d04f9ce0a38ee47d2736a9aa4eaba9a806bda81366d0b80be21"), looks := false }, kinds := [], alts := [], laidByText := true, laidKinds := [.data, .data, .data, .data, .pinned], laidTests := true, laidLooks := .later }
def TopVersionsCardSaid : Prop := Claim7.holds Tryz.pinned (.plain (OpenSpec.ofChange topVersionsSpec)) topVersionsCard

/-- THE TIED CARD OF 'bitemporallaw16.CatalogConverts'. -/
def catalogConvertsCard : Claim7 := { stood := { row := catalogConvertsRow, standIns := [], harness := (true, "a6ea98205c429d04f9ce0a38ee47d2736a9aa4eaba9a806bda81366d0b80be21"), looks := false }, kinds := [], alts := [], laidByText := true, laidKinds := [.data, .data, .data, .data, .pinned], laidTests := true, laidLooks := .later }
def CatalogConvertsCardSaid : Prop := Claim7.holds Tryz.pinned (.plain (OpenSpec.ofChange catalogConvertsSpec)) catalogConvertsCard

/-- THE SECOND FORM's CARD OF 'bitemporaltop.TopVersions'. -/
def topVersionsUptoCard : Claim7 := { stood := { row := topVersionsUptoRow, standIns := [], harness := (true, "a6ea98205c429d04f9ce0a38ee47d2736a9aa4eaba9a806bda81366d0b80be21"), looks := false }, kinds := [], alts := [], laidByText := true, laidKinds := [.data, .data, .data, .data, .pinned], laidTests := true, laidLooks := .later }
def TopVersionsUptoCardSaid : Prop := Claim7.holds Tryz.pinned (.plain (OpenSpec.upto topVersionsSpec)) topVersionsUptoCard

/-- THE SECOND FORM's CARD OF 'bitemporallaw16.CatalogConverts'. -/
def catalogConvertsUptoCard : Claim7 := { stood := { row := catalogConvertsUptoRow, standIns := [], harness := (true, "a6ea98205c429d04f9ce0a38ee47d2736a9aa4eaba9a806bda81366d0b80be21"), looks := false }, kinds := [], alts := [], laidByText := true, laidKinds := [.data, .data, .data, .data, .pinned], laidTests := true, laidLooks := .later }
def CatalogConvertsUptoCardSaid : Prop := Claim7.holds Tryz.pinned (.plain (OpenSpec.upto catalogConvertsSpec)) catalogConvertsUptoCard
end Rows
end Go.Proofs.YtnhhopmldgpglaaGreatDoor
