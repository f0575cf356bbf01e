/-
  DERIVED. GIVEN WITH THE SEED: THE CARDS: each row of YtkmhmnffbgedgaaGreatDoorRows.lean that lists a variable, with what it lists TIED to the program's text (the seventh form; the later family's looks); each row that meets fmt, with fmt's text TOLD by the authors' own Lean function (tested against real Go, not proved from fmt's source: count such statements apart). THE CARD IS WHAT COUNTS. Prove the row's statement (the work); the ties are given (YtkmhmnffbgedgaaGreatDoorTie.lean); close each card by the builder's one call (the guide's Derived/Test/ToyasCard.lean, 'card_holds'). Laid BY PROGRAM, IN A SANDBOX (cutbox-door.mjs). By AI agents, Wed Nov 11 2026. No macro, syntax, notation, axiom, sorry.
-/
import Derived.Test.YtkmhmnffbgedgaaGreatDoorRows
import GoSem.ClaimSeven
namespace Go.Proofs.YtkmhmnffbgedgaaGreatDoor
namespace Rows

/-- THE TIED CARD OF 'shredcollaw2.ShredMakes'. -/
def shredMakesCard : Claim7 := { stood := { row := shredMakesRow, standIns := [], harness := (true, "33760cb2870678f909cb5571cf664b6122144188d221592e6a51f903758bef0b"), looks := true }, kinds := [], alts := [], laidByText := true, laidKinds := [.data, .handle, .sentinel, .sentinel, .sentinel, .sentinel, .sentinel, .sentinel, .sentinel, .sentinel, .pinned], laidTests := true, laidLooks := .later }
def ShredMakesCardSaid : Prop := Claim7.holds Tryz.pinned (.plain (OpenSpec.ofChange shredMakesSpec)) shredMakesCard

/-- THE SECOND FORM's CARD OF 'shredcollaw2.ShredMakes'. -/
def shredMakesUptoCard : Claim7 := { stood := { row := shredMakesUptoRow, standIns := [], harness := (true, "33760cb2870678f909cb5571cf664b6122144188d221592e6a51f903758bef0b"), looks := true }, kinds := [], alts := [], laidByText := true, laidKinds := [.data, .handle, .sentinel, .sentinel, .sentinel, .sentinel, .sentinel, .sentinel, .sentinel, .sentinel, .pinned], laidTests := true, laidLooks := .later }
def ShredMakesUptoCardSaid : Prop := Claim7.holds Tryz.pinned (.plain (OpenSpec.upto shredMakesSpec)) shredMakesUptoCard
end Rows
end Go.Proofs.YtkmhmnffbgedgaaGreatDoor
