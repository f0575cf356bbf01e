/-
  DERIVED. GIVEN WITH THE SEED: THE CARDS: each row of YtdcgihplkangeaaGreatDoorRows.lean that lists a variable, with what it lists TIED to the program's text (the seventh form; the later family's looks); each row that meets fmt, with fmt's text TOLD by the authors' own Lean function (tested against real Go, not proved from fmt's source: count such statements apart). THE CARD IS WHAT COUNTS. Prove the row's statement (the work); the ties are given (YtdcgihplkangeaaGreatDoorTie.lean); close each card by the builder's one call (the guide's Derived/Test/ToyasCard.lean, 'card_holds'). Laid BY PROGRAM, IN A SANDBOX (cutbox-door.mjs). By AI agents, Wed Nov 11 2026. No macro, syntax, notation, axiom, sorry.
-/
import Derived.Test.YtdcgihplkangeaaGreatDoorRows
import GoSem.ClaimSeven
namespace Go.Proofs.YtdcgihplkangeaaGreatDoor
namespace Rows

/-- THE TIED CARD OF 'shredcollaw2.ShredParts'. -/
def shredPartsCard : Claim7 := { stood := { row := shredPartsRow, standIns := [], harness := (true, "48e897a0e28960cc91d3bd474fd2f2ff57c5c3e5f29a3e88e45bd521d9ffc2ad"), looks := true }, kinds := [], alts := [], laidByText := true, laidKinds := [.data, .handle, .sentinel, .sentinel, .sentinel, .sentinel, .sentinel, .sentinel, .sentinel, .sentinel, .pinned], laidTests := true, laidLooks := .later }
def ShredPartsCardSaid : Prop := Claim7.holds Tryz.pinned (.plain (OpenSpec.ofChange shredPartsSpec)) shredPartsCard

/-- THE TIED CARD OF 'shredcollaw2.ShredMakes'. -/
def shredMakesCard : Claim7 := { stood := { row := shredMakesRow, standIns := [], harness := (true, "48e897a0e28960cc91d3bd474fd2f2ff57c5c3e5f29a3e88e45bd521d9ffc2ad"), looks := true }, kinds := [], alts := [], laidByText := true, laidKinds := [.data, .handle, .sentinel, .sentinel, .sentinel, .sentinel, .sentinel, .sentinel, .sentinel, .sentinel, .pinned], laidTests := true, laidLooks := .later }
def ShredMakesCardSaid : Prop := Claim7.holds Tryz.pinned (.plain (OpenSpec.ofChange shredMakesSpec)) shredMakesCard

/-- THE SECOND FORM's CARD OF 'shredcollaw2.ShredParts'. -/
def shredPartsUptoCard : Claim7 := { stood := { row := shredPartsUptoRow, standIns := [], harness := (true, "48e897a0e28960cc91d3bd474fd2f2ff57c5c3e5f29a3e88e45bd521d9ffc2ad"), looks := true }, kinds := [], alts := [], laidByText := true, laidKinds := [.data, .handle, .sentinel, .sentinel, .sentinel, .sentinel, .sentinel, .sentinel, .sentinel, .sentinel, .pinned], laidTests := true, laidLooks := .later }
def ShredPartsUptoCardSaid : Prop := Claim7.holds Tryz.pinned (.plain (OpenSpec.upto shredPartsSpec)) shredPartsUptoCard

/-- THE SECOND FORM's CARD OF 'shredcollaw2.ShredMakes'. -/
def shredMakesUptoCard : Claim7 := { stood := { row := shredMakesUptoRow, standIns := [], harness := (true, "48e897a0e28960cc91d3bd474fd2f2ff57c5c3e5f29a3e88e45bd521d9ffc2ad"), looks := true }, kinds := [], alts := [], laidByText := true, laidKinds := [.data, .handle, .sentinel, .sentinel, .sentinel, .sentinel, .sentinel, .sentinel, .sentinel, .sentinel, .pinned], laidTests := true, laidLooks := .later }
def ShredMakesUptoCardSaid : Prop := Claim7.holds Tryz.pinned (.plain (OpenSpec.upto shredMakesSpec)) shredMakesUptoCard
end Rows
end Go.Proofs.YtdcgihplkangeaaGreatDoor
