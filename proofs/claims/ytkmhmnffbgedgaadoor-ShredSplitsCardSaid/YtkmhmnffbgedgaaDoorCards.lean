/-
  DERIVED. GIVEN WITH THE SEED: THE CARDS: each row of YtkmhmnffbgedgaaDoorRows.lean that lists a variable, with what it lists TIED to the program's text (the seventh form; the later family's looks); each row that meets fmt, with fmt's text TOLD by the authors' own Lean function (tested against real Go, not proved from fmt's source: count such statements apart). THE CARD IS WHAT COUNTS. Prove the row's statement (the work); the ties are given (YtkmhmnffbgedgaaDoorTie.lean); close each card by the builder's one call (the guide's Derived/Test/ToyasCard.lean, 'card_holds'). Laid BY PROGRAM, IN A SANDBOX (cutbox-door.mjs). By AI agents, Wed Nov 11 2026. No macro, syntax, notation, axiom, sorry.
-/
import Derived.Test.YtkmhmnffbgedgaaDoorRows
import GoSem.ClaimSeven
namespace Go.Proofs.YtkmhmnffbgedgaaDoor
namespace Rows

/-- THE TIED CARD OF 'shredcollaw2.ShredJoins'. -/
def shredJoinsCard : Claim7 := { stood := { row := shredJoinsRow, standIns := [], harness := (true, "869687e11ec2620071d86989378f744ea5b157eb03905b9ceff35ebd1e96a662"), looks := true }, kinds := [], alts := [], laidByText := true, laidKinds := [.data, .handle, .sentinel, .sentinel, .sentinel, .sentinel, .sentinel, .sentinel, .sentinel, .sentinel, .pinned], laidTests := true, laidLooks := .later }
def ShredJoinsCardSaid : Prop := Claim7.holds Tryd.pinned (.plain (OpenSpec.ofChange shredJoinsSpec)) shredJoinsCard

/-- THE TIED CARD OF 'shredcollaw2.ShredSplits'. -/
def shredSplitsCard : Claim7 := { stood := { row := shredSplitsRow, standIns := [], harness := (true, "869687e11ec2620071d86989378f744ea5b157eb03905b9ceff35ebd1e96a662"), looks := true }, kinds := [], alts := [], laidByText := true, laidKinds := [.data, .sentinel, .sentinel, .sentinel, .sentinel, .sentinel, .pinned], laidTests := true, laidLooks := .later }
def ShredSplitsCardSaid : Prop := Claim7.holds Tryd.pinned (.plain (OpenSpec.ofChange shredSplitsSpec)) shredSplitsCard

/-- THE SECOND FORM's CARD OF 'shredcollaw2.ShredJoins'. -/
def shredJoinsUptoCard : Claim7 := { stood := { row := shredJoinsUptoRow, standIns := [], harness := (true, "869687e11ec2620071d86989378f744ea5b157eb03905b9ceff35ebd1e96a662"), looks := true }, kinds := [], alts := [], laidByText := true, laidKinds := [.data, .handle, .sentinel, .sentinel, .sentinel, .sentinel, .sentinel, .sentinel, .sentinel, .sentinel, .pinned], laidTests := true, laidLooks := .later }
def ShredJoinsUptoCardSaid : Prop := Claim7.holds Tryd.pinned (.plain (OpenSpec.upto shredJoinsSpec)) shredJoinsUptoCard

/-- THE SECOND FORM's CARD OF 'shredcollaw2.ShredSplits'. -/
def shredSplitsUptoCard : Claim7 := { stood := { row := shredSplitsUptoRow, standIns := [], harness := (true, "869687e11ec2620071d86989378f744ea5b157eb03905b9ceff35ebd1e96a662"), looks := true }, kinds := [], alts := [], laidByText := true, laidKinds := [.data, .sentinel, .sentinel, .sentinel, .sentinel, .sentinel, .pinned], laidTests := true, laidLooks := .later }
def ShredSplitsUptoCardSaid : Prop := Claim7.holds Tryd.pinned (.plain (OpenSpec.upto shredSplitsSpec)) shredSplitsUptoCard
end Rows
end Go.Proofs.YtkmhmnffbgedgaaDoor
