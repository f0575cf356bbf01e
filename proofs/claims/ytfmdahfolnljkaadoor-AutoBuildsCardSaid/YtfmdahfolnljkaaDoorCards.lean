/-
  DERIVED. GIVEN WITH THE SEED: THE CARDS: each row of YtfmdahfolnljkaaDoorRows.lean that lists a variable, with what it lists TIED to the program's text (the seventh form; the later family's looks); each row that meets fmt, with fmt's text TOLD by the authors' own Lean function (tested against real Go, not proved from fmt's source: count such statements apart). THE CARD IS WHAT COUNTS. Prove the row's statement (the work); the ties are given (YtfmdahfolnljkaaDoorTie.lean); close each card by the builder's one call (the guide's Derived/Test/ToyasCard.lean, 'card_holds'). Laid BY PROGRAM, IN A SANDBOX (cutbox-door.mjs). By AI agents, Wed Nov 11 2026. No macro, syntax, notation, axiom, sorry.
-/
import Derived.Test.YtfmdahfolnljkaaDoorRows
import GoSem.ClaimSeven
namespace Go.Proofs.YtfmdahfolnljkaaDoor
namespace Rows

/-- THE TIED CARD OF 'shredcollaw2.AutoBuilds'. -/
def autoBuildsCard : Claim7 := { stood := { row := autoBuildsRow, standIns := [], harness := (true, "79cd112fbd6d123d920e5f5369819aec04c765ffe2d7ec55e79b90dfb064fee2"), looks := true }, kinds := [], alts := [], laidByText := true, laidKinds := [.data, .handle, .sentinel, .sentinel, .sentinel, .sentinel, .sentinel, .sentinel, .sentinel, .sentinel, .pinned], laidTests := true, laidLooks := .later }
def AutoBuildsCardSaid : Prop := Claim7.holds Tryd.pinned (.plain (OpenSpec.ofChange autoBuildsSpec)) autoBuildsCard

/-- THE TIED CARD OF 'shredcollaw2.ShredJoins'. -/
def shredJoinsCard : Claim7 := { stood := { row := shredJoinsRow, standIns := [], harness := (true, "79cd112fbd6d123d920e5f5369819aec04c765ffe2d7ec55e79b90dfb064fee2"), looks := true }, kinds := [], alts := [], laidByText := true, laidKinds := [.data, .handle, .sentinel, .sentinel, .sentinel, .sentinel, .sentinel, .sentinel, .sentinel, .sentinel, .pinned], laidTests := true, laidLooks := .later }
def ShredJoinsCardSaid : Prop := Claim7.holds Tryd.pinned (.plain (OpenSpec.ofChange shredJoinsSpec)) shredJoinsCard

/-- THE SECOND FORM's CARD OF 'shredcollaw2.AutoBuilds'. -/
def autoBuildsUptoCard : Claim7 := { stood := { row := autoBuildsUptoRow, standIns := [], harness := (true, "79cd112fbd6d123d920e5f5369819aec04c765ffe2d7ec55e79b90dfb064fee2"), looks := true }, kinds := [], alts := [], laidByText := true, laidKinds := [.data, .handle, .sentinel, .sentinel, .sentinel, .sentinel, .sentinel, .sentinel, .sentinel, .sentinel, .pinned], laidTests := true, laidLooks := .later }
def AutoBuildsUptoCardSaid : Prop := Claim7.holds Tryd.pinned (.plain (OpenSpec.upto autoBuildsSpec)) autoBuildsUptoCard

/-- THE SECOND FORM's CARD OF 'shredcollaw2.ShredJoins'. -/
def shredJoinsUptoCard : Claim7 := { stood := { row := shredJoinsUptoRow, standIns := [], harness := (true, "79cd112fbd6d123d920e5f5369819aec04c765ffe2d7ec55e79b90dfb064fee2"), looks := true }, kinds := [], alts := [], laidByText := true, laidKinds := [.data, .handle, .sentinel, .sentinel, .sentinel, .sentinel, .sentinel, .sentinel, .sentinel, .sentinel, .pinned], laidTests := true, laidLooks := .later }
def ShredJoinsUptoCardSaid : Prop := Claim7.holds Tryd.pinned (.plain (OpenSpec.upto shredJoinsSpec)) shredJoinsUptoCard
end Rows
end Go.Proofs.YtfmdahfolnljkaaDoor
