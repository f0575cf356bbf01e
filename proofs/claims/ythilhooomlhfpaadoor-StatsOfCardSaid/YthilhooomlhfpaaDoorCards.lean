/-
  DERIVED. GIVEN WITH THE SEED: THE CARDS: each row of YthilhooomlhfpaaDoorRows.lean that lists a variable, with what it lists TIED to the program's text (the seventh form; the later family's looks); each row that meets fmt, with fmt's text TOLD by the authors' own Lean function (tested against real Go, not proved from fmt's source: count such statements apart). THE CARD IS WHAT COUNTS. Prove the row's statement (the work); the ties are given (YthilhooomlhfpaaDoorTie.lean); close each card by the builder's one call (the guide's Derived/Test/ToyasCard.lean, 'card_holds'). Laid BY PROGRAM, IN A SANDBOX (cutbox-door.mjs). By AI agents, Wed Nov 11 2026. No macro, syntax, notation, axiom, sorry.
-/
import Derived.Test.YthilhooomlhfpaaDoorRows
import GoSem.ClaimSeven
namespace Go.Proofs.YthilhooomlhfpaaDoor
namespace Rows

/-- THE TIED CARD OF 'shredcollaw3.StatsOf'. -/
def statsOfCard : Claim7 := { stood := { row := statsOfRow, standIns := [], harness := (true, "202c0ba5646f95b1ec026fcf8189851b83725410a97d68d27d9c925774233cd3"), looks := true }, kinds := [], alts := [], laidByText := true, laidKinds := [.handle, .sentinel, .sentinel, .sentinel, .sentinel, .sentinel, .sentinel, .sentinel, .sentinel], laidTests := true, laidLooks := .later }
def StatsOfCardSaid : Prop := Claim7.holds Tryd.pinned (.plain (OpenSpec.ofChange statsOfSpec)) statsOfCard

/-- THE TIED CARD OF 'shredcollaw3.StatsMerge'. -/
def statsMergeCard : Claim7 := { stood := { row := statsMergeRow, standIns := [], harness := (true, "202c0ba5646f95b1ec026fcf8189851b83725410a97d68d27d9c925774233cd3"), looks := true }, kinds := [], alts := [], laidByText := true, laidKinds := [.handle, .sentinel, .sentinel, .sentinel, .sentinel, .sentinel, .sentinel, .sentinel, .sentinel], laidTests := true, laidLooks := .later }
def StatsMergeCardSaid : Prop := Claim7.holds Tryd.pinned (.plain (OpenSpec.ofChange statsMergeSpec)) statsMergeCard

/-- THE TIED CARD OF 'shredcollaw3.StatsMay'. -/
def statsMayCard : Claim7 := { stood := { row := statsMayRow, standIns := [], harness := (true, "202c0ba5646f95b1ec026fcf8189851b83725410a97d68d27d9c925774233cd3"), looks := true }, kinds := [], alts := [], laidByText := true, laidKinds := [.handle, .sentinel, .sentinel, .sentinel, .sentinel, .sentinel, .sentinel, .sentinel, .sentinel], laidTests := true, laidLooks := .later }
def StatsMayCardSaid : Prop := Claim7.holds Tryd.pinned (.plain (OpenSpec.ofChange statsMaySpec)) statsMayCard

/-- THE TIED CARD OF 'shredcollaw3.StatsBounds'. -/
def statsBoundsCard : Claim7 := { stood := { row := statsBoundsRow, standIns := [], harness := (true, "202c0ba5646f95b1ec026fcf8189851b83725410a97d68d27d9c925774233cd3"), looks := true }, kinds := [], alts := [], laidByText := true, laidKinds := [.sentinel, .sentinel, .sentinel, .sentinel], laidTests := true, laidLooks := .later }
def StatsBoundsCardSaid : Prop := Claim7.holds Tryd.pinned (.plain (OpenSpec.ofChange statsBoundsSpec)) statsBoundsCard

/-- THE TIED CARD OF 'shredcollaw3.StatsTexts'. -/
def statsTextsCard : Claim7 := { stood := { row := statsTextsRow, standIns := [], harness := (true, "202c0ba5646f95b1ec026fcf8189851b83725410a97d68d27d9c925774233cd3"), looks := true }, kinds := [], alts := [], laidByText := true, laidKinds := [.handle, .sentinel, .sentinel, .sentinel, .sentinel, .sentinel, .sentinel, .sentinel, .sentinel], laidTests := true, laidLooks := .later }
def StatsTextsCardSaid : Prop := Claim7.holds Tryd.pinned (.plain (OpenSpec.ofChange statsTextsSpec)) statsTextsCard

/-- THE TIED CARD OF 'shredcollaw3.PageTwice'. -/
def pageTwiceCard : Claim7 := { stood := { row := pageTwiceRow, standIns := [], harness := (true, "202c0ba5646f95b1ec026fcf8189851b83725410a97d68d27d9c925774233cd3"), looks := true }, kinds := [], alts := [], laidByText := true, laidKinds := [.sentinel, .sentinel, .sentinel, .sentinel, .sentinel], laidTests := true, laidLooks := .later }
def PageTwiceCardSaid : Prop := Claim7.holds Tryd.pinned (.plain (OpenSpec.ofChange pageTwiceSpec)) pageTwiceCard

/-- THE TIED CARD OF 'shredcollaw3.PageTurned'. -/
def pageTurnedCard : Claim7 := { stood := { row := pageTurnedRow, standIns := [], harness := (true, "202c0ba5646f95b1ec026fcf8189851b83725410a97d68d27d9c925774233cd3"), looks := true }, kinds := [], alts := [], laidByText := true, laidKinds := [.sentinel, .sentinel, .sentinel, .sentinel, .sentinel], laidTests := true, laidLooks := .later }
def PageTurnedCardSaid : Prop := Claim7.holds Tryd.pinned (.plain (OpenSpec.ofChange pageTurnedSpec)) pageTurnedCard

/-- THE TIED CARD OF 'shredcollaw3.ChunkTwice'. -/
def chunkTwiceCard : Claim7 := { stood := { row := chunkTwiceRow, standIns := [], harness := (true, "202c0ba5646f95b1ec026fcf8189851b83725410a97d68d27d9c925774233cd3"), looks := true }, kinds := [], alts := [], laidByText := true, laidKinds := [.sentinel, .sentinel, .sentinel, .sentinel, .sentinel], laidTests := true, laidLooks := .later }
def ChunkTwiceCardSaid : Prop := Claim7.holds Tryd.pinned (.plain (OpenSpec.ofChange chunkTwiceSpec)) chunkTwiceCard

/-- THE SECOND FORM's CARD OF 'shredcollaw3.StatsOf'. -/
def statsOfUptoCard : Claim7 := { stood := { row := statsOfUptoRow, standIns := [], harness := (true, "202c0ba5646f95b1ec026fcf8189851b83725410a97d68d27d9c925774233cd3"), looks := true }, kinds := [], alts := [], laidByText := true, laidKinds := [.handle, .sentinel, .sentinel, .sentinel, .sentinel, .sentinel, .sentinel, .sentinel, .sentinel], laidTests := true, laidLooks := .later }
def StatsOfUptoCardSaid : Prop := Claim7.holds Tryd.pinned (.plain (OpenSpec.upto statsOfSpec)) statsOfUptoCard

/-- THE SECOND FORM's CARD OF 'shredcollaw3.StatsMerge'. -/
def statsMergeUptoCard : Claim7 := { stood := { row := statsMergeUptoRow, standIns := [], harness := (true, "202c0ba5646f95b1ec026fcf8189851b83725410a97d68d27d9c925774233cd3"), looks := true }, kinds := [], alts := [], laidByText := true, laidKinds := [.handle, .sentinel, .sentinel, .sentinel, .sentinel, .sentinel, .sentinel, .sentinel, .sentinel], laidTests := true, laidLooks := .later }
def StatsMergeUptoCardSaid : Prop := Claim7.holds Tryd.pinned (.plain (OpenSpec.upto statsMergeSpec)) statsMergeUptoCard

/-- THE SECOND FORM's CARD OF 'shredcollaw3.StatsMay'. -/
def statsMayUptoCard : Claim7 := { stood := { row := statsMayUptoRow, standIns := [], harness := (true, "202c0ba5646f95b1ec026fcf8189851b83725410a97d68d27d9c925774233cd3"), looks := true }, kinds := [], alts := [], laidByText := true, laidKinds := [.handle, .sentinel, .sentinel, .sentinel, .sentinel, .sentinel, .sentinel, .sentinel, .sentinel], laidTests := true, laidLooks := .later }
def StatsMayUptoCardSaid : Prop := Claim7.holds Tryd.pinned (.plain (OpenSpec.upto statsMaySpec)) statsMayUptoCard

/-- THE SECOND FORM's CARD OF 'shredcollaw3.StatsBounds'. -/
def statsBoundsUptoCard : Claim7 := { stood := { row := statsBoundsUptoRow, standIns := [], harness := (true, "202c0ba5646f95b1ec026fcf8189851b83725410a97d68d27d9c925774233cd3"), looks := true }, kinds := [], alts := [], laidByText := true, laidKinds := [.sentinel, .sentinel, .sentinel, .sentinel], laidTests := true, laidLooks := .later }
def StatsBoundsUptoCardSaid : Prop := Claim7.holds Tryd.pinned (.plain (OpenSpec.upto statsBoundsSpec)) statsBoundsUptoCard

/-- THE SECOND FORM's CARD OF 'shredcollaw3.StatsTexts'. -/
def statsTextsUptoCard : Claim7 := { stood := { row := statsTextsUptoRow, standIns := [], harness := (true, "202c0ba5646f95b1ec026fcf8189851b83725410a97d68d27d9c925774233cd3"), looks := true }, kinds := [], alts := [], laidByText := true, laidKinds := [.handle, .sentinel, .sentinel, .sentinel, .sentinel, .sentinel, .sentinel, .sentinel, .sentinel], laidTests := true, laidLooks := .later }
def StatsTextsUptoCardSaid : Prop := Claim7.holds Tryd.pinned (.plain (OpenSpec.upto statsTextsSpec)) statsTextsUptoCard

/-- THE SECOND FORM's CARD OF 'shredcollaw3.PageTwice'. -/
def pageTwiceUptoCard : Claim7 := { stood := { row := pageTwiceUptoRow, standIns := [], harness := (true, "202c0ba5646f95b1ec026fcf8189851b83725410a97d68d27d9c925774233cd3"), looks := true }, kinds := [], alts := [], laidByText := true, laidKinds := [.sentinel, .sentinel, .sentinel, .sentinel, .sentinel], laidTests := true, laidLooks := .later }
def PageTwiceUptoCardSaid : Prop := Claim7.holds Tryd.pinned (.plain (OpenSpec.upto pageTwiceSpec)) pageTwiceUptoCard

/-- THE SECOND FORM's CARD OF 'shredcollaw3.PageTurned'. -/
def pageTurnedUptoCard : Claim7 := { stood := { row := pageTurnedUptoRow, standIns := [], harness := (true, "202c0ba5646f95b1ec026fcf8189851b83725410a97d68d27d9c925774233cd3"), looks := true }, kinds := [], alts := [], laidByText := true, laidKinds := [.sentinel, .sentinel, .sentinel, .sentinel, .sentinel], laidTests := true, laidLooks := .later }
def PageTurnedUptoCardSaid : Prop := Claim7.holds Tryd.pinned (.plain (OpenSpec.upto pageTurnedSpec)) pageTurnedUptoCard

/-- THE SECOND FORM's CARD OF 'shredcollaw3.ChunkTwice'. -/
def chunkTwiceUptoCard : Claim7 := { stood := { row := chunkTwiceUptoRow, standIns := [], harness := (true, "202c0ba5646f95b1ec026fcf8189851b83725410a97d68d27d9c925774233cd3"), looks := true }, kinds := [], alts := [], laidByText := true, laidKinds := [.sentinel, .sentinel, .sentinel, .sentinel, .sentinel], laidTests := true, laidLooks := .later }
def ChunkTwiceUptoCardSaid : Prop := Claim7.holds Tryd.pinned (.plain (OpenSpec.upto chunkTwiceSpec)) chunkTwiceUptoCard
end Rows
end Go.Proofs.YthilhooomlhfpaaDoor
