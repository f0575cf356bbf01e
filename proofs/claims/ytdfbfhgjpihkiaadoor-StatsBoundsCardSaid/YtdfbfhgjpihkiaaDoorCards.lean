/-
  DERIVED. GIVEN WITH THE SEED: THE CARDS: each row of YtdfbfhgjpihkiaaDoorRows.lean that lists a variable, with what it lists TIED to the program's text (the seventh form; the later family's looks); each row that meets fmt, with fmt's text TOLD by the authors' own Lean function (tested against real Go, not proved from fmt's source: count such statements apart). THE CARD IS WHAT COUNTS. Prove the row's statement (the work); the ties are given (YtdfbfhgjpihkiaaDoorTie.lean); close each card by the builder's one call (the guide's Derived/Test/ToyasCard.lean, 'card_holds'). Laid BY PROGRAM, IN A SANDBOX (cutbox-door.mjs). By AI agents, Wed Nov 11 2026. No macro, syntax, notation, axiom, sorry.
-/
import Derived.Test.YtdfbfhgjpihkiaaDoorRows
import GoSem.ClaimSeven
namespace Go.Proofs.YtdfbfhgjpihkiaaDoor
namespace Rows

/-- THE TIED CARD OF 'shredcollaw3.StatsBounds'. -/
def statsBoundsCard : Claim7 := { stood := { row := statsBoundsRow, standIns := [], harness := (true, "8133d9ab7c248a4c6348d785cc01764a49fc2d5ef4688923ac1a435d2382a621"), looks := false }, kinds := [], alts := [], laidByText := true, laidKinds := [.sentinel, .sentinel, .sentinel, .sentinel], laidTests := true, laidLooks := .later }
def StatsBoundsCardSaid : Prop := Claim7.holds Tryd.pinned (.plain (OpenSpec.ofChange statsBoundsSpec)) statsBoundsCard

/-- THE TIED CARD OF 'shredcollaw3.PageTwice'. -/
def pageTwiceCard : Claim7 := { stood := { row := pageTwiceRow, standIns := [], harness := (true, "8133d9ab7c248a4c6348d785cc01764a49fc2d5ef4688923ac1a435d2382a621"), looks := false }, kinds := [], alts := [], laidByText := true, laidKinds := [.sentinel, .sentinel, .sentinel, .sentinel, .sentinel], laidTests := true, laidLooks := .later }
def PageTwiceCardSaid : Prop := Claim7.holds Tryd.pinned (.plain (OpenSpec.ofChange pageTwiceSpec)) pageTwiceCard

/-- THE TIED CARD OF 'shredcollaw3.PageTurned'. -/
def pageTurnedCard : Claim7 := { stood := { row := pageTurnedRow, standIns := [], harness := (true, "8133d9ab7c248a4c6348d785cc01764a49fc2d5ef4688923ac1a435d2382a621"), looks := false }, kinds := [], alts := [], laidByText := true, laidKinds := [.sentinel, .sentinel, .sentinel, .sentinel, .sentinel], laidTests := true, laidLooks := .later }
def PageTurnedCardSaid : Prop := Claim7.holds Tryd.pinned (.plain (OpenSpec.ofChange pageTurnedSpec)) pageTurnedCard

/-- THE TIED CARD OF 'shredcollaw3.ChunkTwice'. -/
def chunkTwiceCard : Claim7 := { stood := { row := chunkTwiceRow, standIns := [], harness := (true, "8133d9ab7c248a4c6348d785cc01764a49fc2d5ef4688923ac1a435d2382a621"), looks := false }, kinds := [], alts := [], laidByText := true, laidKinds := [.sentinel, .sentinel, .sentinel, .sentinel, .sentinel], laidTests := true, laidLooks := .later }
def ChunkTwiceCardSaid : Prop := Claim7.holds Tryd.pinned (.plain (OpenSpec.ofChange chunkTwiceSpec)) chunkTwiceCard

/-- THE SECOND FORM's CARD OF 'shredcollaw3.StatsBounds'. -/
def statsBoundsUptoCard : Claim7 := { stood := { row := statsBoundsUptoRow, standIns := [], harness := (true, "8133d9ab7c248a4c6348d785cc01764a49fc2d5ef4688923ac1a435d2382a621"), looks := false }, kinds := [], alts := [], laidByText := true, laidKinds := [.sentinel, .sentinel, .sentinel, .sentinel], laidTests := true, laidLooks := .later }
def StatsBoundsUptoCardSaid : Prop := Claim7.holds Tryd.pinned (.plain (OpenSpec.upto statsBoundsSpec)) statsBoundsUptoCard

/-- THE SECOND FORM's CARD OF 'shredcollaw3.PageTwice'. -/
def pageTwiceUptoCard : Claim7 := { stood := { row := pageTwiceUptoRow, standIns := [], harness := (true, "8133d9ab7c248a4c6348d785cc01764a49fc2d5ef4688923ac1a435d2382a621"), looks := false }, kinds := [], alts := [], laidByText := true, laidKinds := [.sentinel, .sentinel, .sentinel, .sentinel, .sentinel], laidTests := true, laidLooks := .later }
def PageTwiceUptoCardSaid : Prop := Claim7.holds Tryd.pinned (.plain (OpenSpec.upto pageTwiceSpec)) pageTwiceUptoCard

/-- THE SECOND FORM's CARD OF 'shredcollaw3.PageTurned'. -/
def pageTurnedUptoCard : Claim7 := { stood := { row := pageTurnedUptoRow, standIns := [], harness := (true, "8133d9ab7c248a4c6348d785cc01764a49fc2d5ef4688923ac1a435d2382a621"), looks := false }, kinds := [], alts := [], laidByText := true, laidKinds := [.sentinel, .sentinel, .sentinel, .sentinel, .sentinel], laidTests := true, laidLooks := .later }
def PageTurnedUptoCardSaid : Prop := Claim7.holds Tryd.pinned (.plain (OpenSpec.upto pageTurnedSpec)) pageTurnedUptoCard

/-- THE SECOND FORM's CARD OF 'shredcollaw3.ChunkTwice'. -/
def chunkTwiceUptoCard : Claim7 := { stood := { row := chunkTwiceUptoRow, standIns := [], harness := (true, "8133d9ab7c248a4c6348d785cc01764a49fc2d5ef4688923ac1a435d2382a621"), looks := false }, kinds := [], alts := [], laidByText := true, laidKinds := [.sentinel, .sentinel, .sentinel, .sentinel, .sentinel], laidTests := true, laidLooks := .later }
def ChunkTwiceUptoCardSaid : Prop := Claim7.holds Tryd.pinned (.plain (OpenSpec.upto chunkTwiceSpec)) chunkTwiceUptoCard
end Rows
end Go.Proofs.YtdfbfhgjpihkiaaDoor
