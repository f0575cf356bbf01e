/-
  DERIVED. GIVEN WITH THE SEED: THE CARDS: each row of YtapiabmmfmfaeaaGreatDoorRows.lean that lists a variable, with what it lists TIED to the program's text (the seventh form; the later family's looks); each row that meets fmt, with fmt's text TOLD by the authors' own Lean function (tested against real Go, not proved from fmt's source: count such statements apart). THE CARD IS WHAT COUNTS. Prove the row's statement (the work); the ties are given (YtapiabmmfmfaeaaGreatDoorTie.lean); close each card by the builder's one call (the guide's Derived/Test/ToyasCard.lean, 'card_holds'). Laid BY PROGRAM, IN A SANDBOX (cutbox-door.mjs). By AI agents, Wed Nov 11 2026. No macro, syntax, notation, axiom, sorry.
-/
import Derived.Test.YtapiabmmfmfaeaaGreatDoorRows
import GoSem.ClaimSeven
namespace Go.Proofs.YtapiabmmfmfaeaaGreatDoor
namespace Rows

/-- THE TIED CARD OF 'shredcollaw3.PageReads'. -/
def pageReadsCard : Claim7 := { stood := { row := pageReadsRow, standIns := [], harness := (true, "97f94e6a14ea7d7d831e7cdbee65997c154516787b86921d242e8bd9e65ee452"), looks := true }, kinds := [], alts := [], laidByText := true, laidKinds := [.handle, .sentinel, .sentinel, .sentinel, .sentinel, .sentinel, .sentinel, .sentinel, .sentinel], laidTests := true, laidLooks := .later }
def PageReadsCardSaid : Prop := Claim7.holds Tryz.pinned (.plain (OpenSpec.ofChange pageReadsSpec)) pageReadsCard

/-- THE SECOND FORM's CARD OF 'shredcollaw3.PageReads'. -/
def pageReadsUptoCard : Claim7 := { stood := { row := pageReadsUptoRow, standIns := [], harness := (true, "97f94e6a14ea7d7d831e7cdbee65997c154516787b86921d242e8bd9e65ee452"), looks := true }, kinds := [], alts := [], laidByText := true, laidKinds := [.handle, .sentinel, .sentinel, .sentinel, .sentinel, .sentinel, .sentinel, .sentinel, .sentinel], laidTests := true, laidLooks := .later }
def PageReadsUptoCardSaid : Prop := Claim7.holds Tryz.pinned (.plain (OpenSpec.upto pageReadsSpec)) pageReadsUptoCard
end Rows
end Go.Proofs.YtapiabmmfmfaeaaGreatDoor
