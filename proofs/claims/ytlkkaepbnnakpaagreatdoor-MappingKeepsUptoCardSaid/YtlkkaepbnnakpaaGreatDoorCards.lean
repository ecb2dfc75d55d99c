/-
  DERIVED. GIVEN WITH THE SEED: THE CARDS: each row of YtlkkaepbnnakpaaGreatDoorRows.lean that lists a variable, with what it lists TIED to the program's text (the seventh form; the later family's looks); each row that meets fmt, with fmt's text TOLD by the authors' own Lean function (tested against real Go, not proved from fmt's source: count such statements apart). THE CARD IS WHAT COUNTS. Prove the row's statement (the work); the ties are given (YtlkkaepbnnakpaaGreatDoorTie.lean); close each card by the builder's one call (the guide's Derived/Test/ToyasCard.lean, 'card_holds'). Laid BY PROGRAM, IN A SANDBOX (cutbox-door.mjs). By AI agents, Wed Nov 11 2026. No macro, syntax, notation, axiom, sorry.
-/
import Derived.Test.YtlkkaepbnnakpaaGreatDoorRows
import GoSem.ClaimSeven
namespace Go.Proofs.YtlkkaepbnnakpaaGreatDoor
namespace Rows

/-- THE TIED CARD OF 'bitemporallaw15.MappingSteps'. -/
def mappingStepsCard : Claim7 := { stood := { row := mappingStepsRow, standIns := [], harness := (true, "42ea0178ee76e05547cd382a2fef0ef76783b2e710915905f9573ad675e72c76"), looks := false }, kinds := [], alts := [], laidByText := true, laidKinds := [.data, .data, .data, .data, .pinned], laidTests := true, laidLooks := .later }
def MappingStepsCardSaid : Prop := Claim7.holds Tryz.pinned (.plain (OpenSpec.ofChange mappingStepsSpec)) mappingStepsCard

/-- THE TIED CARD OF 'bitemporallaw15.MappingTables'. -/
def mappingTablesCard : Claim7 := { stood := { row := mappingTablesRow, standIns := [], harness := (true, "42ea0178ee76e05547cd382a2fef0ef76783b2e710915905f9573ad675e72c76"), looks := false }, kinds := [], alts := [], laidByText := true, laidKinds := [.data, .data, .data, .data, .pinned], laidTests := true, laidLooks := .later }
def MappingTablesCardSaid : Prop := Claim7.holds Tryz.pinned (.plain (OpenSpec.ofChange mappingTablesSpec)) mappingTablesCard

/-- THE TIED CARD OF 'bitemporallaw15.MappingConverts'. -/
def mappingConvertsCard : Claim7 := { stood := { row := mappingConvertsRow, standIns := [], harness := (true, "42ea0178ee76e05547cd382a2fef0ef76783b2e710915905f9573ad675e72c76"), looks := false }, kinds := [], alts := [], laidByText := true, laidKinds := [.data, .data, .data, .data, .pinned], laidTests := true, laidLooks := .later }
def MappingConvertsCardSaid : Prop := Claim7.holds Tryz.pinned (.plain (OpenSpec.ofChange mappingConvertsSpec)) mappingConvertsCard

/-- THE TIED CARD OF 'bitemporallaw15.MappingBack'. -/
def mappingBackCard : Claim7 := { stood := { row := mappingBackRow, standIns := [], harness := (true, "42ea0178ee76e05547cd382a2fef0ef76783b2e710915905f9573ad675e72c76"), looks := false }, kinds := [], alts := [], laidByText := true, laidKinds := [.data, .data, .data, .data, .pinned], laidTests := true, laidLooks := .later }
def MappingBackCardSaid : Prop := Claim7.holds Tryz.pinned (.plain (OpenSpec.ofChange mappingBackSpec)) mappingBackCard

/-- THE TIED CARD OF 'bitemporallaw15.MappingComposes'. -/
def mappingComposesCard : Claim7 := { stood := { row := mappingComposesRow, standIns := [], harness := (true, "42ea0178ee76e05547cd382a2fef0ef76783b2e710915905f9573ad675e72c76"), looks := false }, kinds := [], alts := [], laidByText := true, laidKinds := [.data, .data, .data, .data, .pinned], laidTests := true, laidLooks := .later }
def MappingComposesCardSaid : Prop := Claim7.holds Tryz.pinned (.plain (OpenSpec.ofChange mappingComposesSpec)) mappingComposesCard

/-- THE TIED CARD OF 'bitemporallaw15.MappingColumns'. -/
def mappingColumnsCard : Claim7 := { stood := { row := mappingColumnsRow, standIns := [], harness := (true, "42ea0178ee76e05547cd382a2fef0ef76783b2e710915905f9573ad675e72c76"), looks := false }, kinds := [], alts := [], laidByText := true, laidKinds := [.data, .data, .data, .data, .pinned], laidTests := true, laidLooks := .later }
def MappingColumnsCardSaid : Prop := Claim7.holds Tryz.pinned (.plain (OpenSpec.ofChange mappingColumnsSpec)) mappingColumnsCard

/-- THE TIED CARD OF 'bitemporallaw15.MappingKeeps'. -/
def mappingKeepsCard : Claim7 := { stood := { row := mappingKeepsRow, standIns := [], harness := (true, "42ea0178ee76e05547cd382a2fef0ef76783b2e710915905f9573ad675e72c76"), looks := false }, kinds := [], alts := [], laidByText := true, laidKinds := [.data, .data, .data, .data, .pinned], laidTests := true, laidLooks := .later }
def MappingKeepsCardSaid : Prop := Claim7.holds Tryz.pinned (.plain (OpenSpec.ofChange mappingKeepsSpec)) mappingKeepsCard

/-- THE SECOND FORM's CARD OF 'bitemporallaw15.MappingSteps'. -/
def mappingStepsUptoCard : Claim7 := { stood := { row := mappingStepsUptoRow, standIns := [], harness := (true, "42ea0178ee76e05547cd382a2fef0ef76783b2e710915905f9573ad675e72c76"), looks := false }, kinds := [], alts := [], laidByText := true, laidKinds := [.data, .data, .data, .data, .pinned], laidTests := true, laidLooks := .later }
def MappingStepsUptoCardSaid : Prop := Claim7.holds Tryz.pinned (.plain (OpenSpec.upto mappingStepsSpec)) mappingStepsUptoCard

/-- THE SECOND FORM's CARD OF 'bitemporallaw15.MappingTables'. -/
def mappingTablesUptoCard : Claim7 := { stood := { row := mappingTablesUptoRow, standIns := [], harness := (true, "42ea0178ee76e05547cd382a2fef0ef76783b2e710915905f9573ad675e72c76"), looks := false }, kinds := [], alts := [], laidByText := true, laidKinds := [.data, .data, .data, .data, .pinned], laidTests := true, laidLooks := .later }
def MappingTablesUptoCardSaid : Prop := Claim7.holds Tryz.pinned (.plain (OpenSpec.upto mappingTablesSpec)) mappingTablesUptoCard

/-- THE SECOND FORM's CARD OF 'bitemporallaw15.MappingConverts'. -/
def mappingConvertsUptoCard : Claim7 := { stood := { row := mappingConvertsUptoRow, standIns := [], harness := (true, "42ea0178ee76e05547cd382a2fef0ef76783b2e710915905f9573ad675e72c76"), looks := false }, kinds := [], alts := [], laidByText := true, laidKinds := [.data, .data, .data, .data, .pinned], laidTests := true, laidLooks := .later }
def MappingConvertsUptoCardSaid : Prop := Claim7.holds Tryz.pinned (.plain (OpenSpec.upto mappingConvertsSpec)) mappingConvertsUptoCard

/-- THE SECOND FORM's CARD OF 'bitemporallaw15.MappingBack'. -/
def mappingBackUptoCard : Claim7 := { stood := { row := mappingBackUptoRow, standIns := [], harness := (true, "42ea0178ee76e05547cd382a2fef0ef76783b2e710915905f9573ad675e72c76"), looks := false }, kinds := [], alts := [], laidByText := true, laidKinds := [.data, .data, .data, .data, .pinned], laidTests := true, laidLooks := .later }
def MappingBackUptoCardSaid : Prop := Claim7.holds Tryz.pinned (.plain (OpenSpec.upto mappingBackSpec)) mappingBackUptoCard

/-- THE SECOND FORM's CARD OF 'bitemporallaw15.MappingComposes'. -/
def mappingComposesUptoCard : Claim7 := { stood := { row := mappingComposesUptoRow, standIns := [], harness := (true, "42ea0178ee76e05547cd382a2fef0ef76783b2e710915905f9573ad675e72c76"), looks := false }, kinds := [], alts := [], laidByText := true, laidKinds := [.data, .data, .data, .data, .pinned], laidTests := true, laidLooks := .later }
def MappingComposesUptoCardSaid : Prop := Claim7.holds Tryz.pinned (.plain (OpenSpec.upto mappingComposesSpec)) mappingComposesUptoCard

/-- THE SECOND FORM's CARD OF 'bitemporallaw15.MappingColumns'. -/
def mappingColumnsUptoCard : Claim7 := { stood := { row := mappingColumnsUptoRow, standIns := [], harness := (true, "42ea0178ee76e05547cd382a2fef0ef76783b2e710915905f9573ad675e72c76"), looks := false }, kinds := [], alts := [], laidByText := true, laidKinds := [.data, .data, .data, .data, .pinned], laidTests := true, laidLooks := .later }
def MappingColumnsUptoCardSaid : Prop := Claim7.holds Tryz.pinned (.plain (OpenSpec.upto mappingColumnsSpec)) mappingColumnsUptoCard

/-- THE SECOND FORM's CARD OF 'bitemporallaw15.MappingKeeps'. -/
def mappingKeepsUptoCard : Claim7 := { stood := { row := mappingKeepsUptoRow, standIns := [], harness := (true, "42ea0178ee76e05547cd382a2fef0ef76783b2e710915905f9573ad675e72c76"), looks := false }, kinds := [], alts := [], laidByText := true, laidKinds := [.data, .data, .data, .data, .pinned], laidTests := true, laidLooks := .later }
def MappingKeepsUptoCardSaid : Prop := Claim7.holds Tryz.pinned (.plain (OpenSpec.upto mappingKeepsSpec)) mappingKeepsUptoCard
end Rows
end Go.Proofs.YtlkkaepbnnakpaaGreatDoor
