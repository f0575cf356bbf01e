/-
  DERIVED. GIVEN WITH THE SEED: THE CARDS: each row of YtpbkmfnfcdhhjaaGreatDoorRows.lean that lists a variable, with what it lists TIED to the program's text (the seventh form; the later family's looks); each row that meets fmt, with fmt's text TOLD by the authors' own Lean function (tested against real Go, not proved from fmt's source: count such statements apart). THE CARD IS WHAT COUNTS. Prove the row's statement (the work); the ties are given (YtpbkmfnfcdhhjaaGreatDoorTie.lean); close each card by the builder's one call (the guide's Derived/Test/ToyasCard.lean, 'card_holds'). Laid BY PROGRAM, IN A SANDBOX (cutbox-door.mjs). By AI agents, Wed Nov 11 2026. No macro, syntax, notation, axiom, sorry.
-/
import Derived.Test.YtpbkmfnfcdhhjaaGreatDoorRows
import GoSem.ClaimSeven
namespace Go.Proofs.YtpbkmfnfcdhhjaaGreatDoor
namespace Rows

/-- THE TIED CARD OF 'shredcollaw3.PageWrites'. -/
def pageWritesCard : Claim7 := { stood := { row := pageWritesRow, standIns := [], harness := (true, "de578c2a304defd51841d66f3c8a85d6c10801877074e4fe603102208ba78fec"), looks := true }, kinds := [], alts := [], laidByText := true, laidKinds := [.handle, .sentinel, .sentinel, .sentinel, .sentinel, .sentinel, .sentinel, .sentinel, .sentinel], laidTests := true, laidLooks := .later }
def PageWritesCardSaid : Prop := Claim7.holds Tryz.pinned (.plain (OpenSpec.ofChange pageWritesSpec)) pageWritesCard

/-- THE TIED CARD OF 'shredcollaw3.PageReads'. -/
def pageReadsCard : Claim7 := { stood := { row := pageReadsRow, standIns := [], harness := (true, "de578c2a304defd51841d66f3c8a85d6c10801877074e4fe603102208ba78fec"), looks := true }, kinds := [], alts := [], laidByText := true, laidKinds := [.handle, .sentinel, .sentinel, .sentinel, .sentinel, .sentinel, .sentinel, .sentinel, .sentinel], laidTests := true, laidLooks := .later }
def PageReadsCardSaid : Prop := Claim7.holds Tryz.pinned (.plain (OpenSpec.ofChange pageReadsSpec)) pageReadsCard

/-- THE TIED CARD OF 'shredcollaw3.ChunkWrites'. -/
def chunkWritesCard : Claim7 := { stood := { row := chunkWritesRow, standIns := [], harness := (true, "de578c2a304defd51841d66f3c8a85d6c10801877074e4fe603102208ba78fec"), looks := true }, kinds := [], alts := [], laidByText := true, laidKinds := [.handle, .sentinel, .sentinel, .sentinel, .sentinel, .sentinel, .sentinel, .sentinel, .sentinel], laidTests := true, laidLooks := .later }
def ChunkWritesCardSaid : Prop := Claim7.holds Tryz.pinned (.plain (OpenSpec.ofChange chunkWritesSpec)) chunkWritesCard

/-- THE TIED CARD OF 'shredcollaw3.ChunkReads'. -/
def chunkReadsCard : Claim7 := { stood := { row := chunkReadsRow, standIns := [], harness := (true, "de578c2a304defd51841d66f3c8a85d6c10801877074e4fe603102208ba78fec"), looks := true }, kinds := [], alts := [], laidByText := true, laidKinds := [.handle, .sentinel, .sentinel, .sentinel, .sentinel, .sentinel, .sentinel, .sentinel, .sentinel], laidTests := true, laidLooks := .later }
def ChunkReadsCardSaid : Prop := Claim7.holds Tryz.pinned (.plain (OpenSpec.ofChange chunkReadsSpec)) chunkReadsCard

/-- THE TIED CARD OF 'shredcollaw3.ChunkPicks'. -/
def chunkPicksCard : Claim7 := { stood := { row := chunkPicksRow, standIns := [], harness := (true, "de578c2a304defd51841d66f3c8a85d6c10801877074e4fe603102208ba78fec"), looks := true }, kinds := [], alts := [], laidByText := true, laidKinds := [.handle, .sentinel, .sentinel, .sentinel, .sentinel, .sentinel, .sentinel, .sentinel, .sentinel], laidTests := true, laidLooks := .later }
def ChunkPicksCardSaid : Prop := Claim7.holds Tryz.pinned (.plain (OpenSpec.ofChange chunkPicksSpec)) chunkPicksCard

/-- THE TIED CARD OF 'shredcollaw3.ChunkMarked'. -/
def chunkMarkedCard : Claim7 := { stood := { row := chunkMarkedRow, standIns := [], harness := (true, "de578c2a304defd51841d66f3c8a85d6c10801877074e4fe603102208ba78fec"), looks := true }, kinds := [], alts := [], laidByText := true, laidKinds := [.handle, .sentinel, .sentinel, .sentinel, .sentinel, .sentinel, .sentinel, .sentinel, .sentinel], laidTests := true, laidLooks := .later }
def ChunkMarkedCardSaid : Prop := Claim7.holds Tryz.pinned (.plain (OpenSpec.ofChange chunkMarkedSpec)) chunkMarkedCard

/-- THE SECOND FORM's CARD OF 'shredcollaw3.PageWrites'. -/
def pageWritesUptoCard : Claim7 := { stood := { row := pageWritesUptoRow, standIns := [], harness := (true, "de578c2a304defd51841d66f3c8a85d6c10801877074e4fe603102208ba78fec"), looks := true }, kinds := [], alts := [], laidByText := true, laidKinds := [.handle, .sentinel, .sentinel, .sentinel, .sentinel, .sentinel, .sentinel, .sentinel, .sentinel], laidTests := true, laidLooks := .later }
def PageWritesUptoCardSaid : Prop := Claim7.holds Tryz.pinned (.plain (OpenSpec.upto pageWritesSpec)) pageWritesUptoCard

/-- THE SECOND FORM's CARD OF 'shredcollaw3.PageReads'. -/
def pageReadsUptoCard : Claim7 := { stood := { row := pageReadsUptoRow, standIns := [], harness := (true, "de578c2a304defd51841d66f3c8a85d6c10801877074e4fe603102208ba78fec"), looks := true }, kinds := [], alts := [], laidByText := true, laidKinds := [.handle, .sentinel, .sentinel, .sentinel, .sentinel, .sentinel, .sentinel, .sentinel, .sentinel], laidTests := true, laidLooks := .later }
def PageReadsUptoCardSaid : Prop := Claim7.holds Tryz.pinned (.plain (OpenSpec.upto pageReadsSpec)) pageReadsUptoCard

/-- THE SECOND FORM's CARD OF 'shredcollaw3.ChunkWrites'. -/
def chunkWritesUptoCard : Claim7 := { stood := { row := chunkWritesUptoRow, standIns := [], harness := (true, "de578c2a304defd51841d66f3c8a85d6c10801877074e4fe603102208ba78fec"), looks := true }, kinds := [], alts := [], laidByText := true, laidKinds := [.handle, .sentinel, .sentinel, .sentinel, .sentinel, .sentinel, .sentinel, .sentinel, .sentinel], laidTests := true, laidLooks := .later }
def ChunkWritesUptoCardSaid : Prop := Claim7.holds Tryz.pinned (.plain (OpenSpec.upto chunkWritesSpec)) chunkWritesUptoCard

/-- THE SECOND FORM's CARD OF 'shredcollaw3.ChunkReads'. -/
def chunkReadsUptoCard : Claim7 := { stood := { row := chunkReadsUptoRow, standIns := [], harness := (true, "de578c2a304defd51841d66f3c8a85d6c10801877074e4fe603102208ba78fec"), looks := true }, kinds := [], alts := [], laidByText := true, laidKinds := [.handle, .sentinel, .sentinel, .sentinel, .sentinel, .sentinel, .sentinel, .sentinel, .sentinel], laidTests := true, laidLooks := .later }
def ChunkReadsUptoCardSaid : Prop := Claim7.holds Tryz.pinned (.plain (OpenSpec.upto chunkReadsSpec)) chunkReadsUptoCard

/-- THE SECOND FORM's CARD OF 'shredcollaw3.ChunkPicks'. -/
def chunkPicksUptoCard : Claim7 := { stood := { row := chunkPicksUptoRow, standIns := [], harness := (true, "de578c2a304defd51841d66f3c8a85d6c10801877074e4fe603102208ba78fec"), looks := true }, kinds := [], alts := [], laidByText := true, laidKinds := [.handle, .sentinel, .sentinel, .sentinel, .sentinel, .sentinel, .sentinel, .sentinel, .sentinel], laidTests := true, laidLooks := .later }
def ChunkPicksUptoCardSaid : Prop := Claim7.holds Tryz.pinned (.plain (OpenSpec.upto chunkPicksSpec)) chunkPicksUptoCard

/-- THE SECOND FORM's CARD OF 'shredcollaw3.ChunkMarked'. -/
def chunkMarkedUptoCard : Claim7 := { stood := { row := chunkMarkedUptoRow, standIns := [], harness := (true, "de578c2a304defd51841d66f3c8a85d6c10801877074e4fe603102208ba78fec"), looks := true }, kinds := [], alts := [], laidByText := true, laidKinds := [.handle, .sentinel, .sentinel, .sentinel, .sentinel, .sentinel, .sentinel, .sentinel, .sentinel], laidTests := true, laidLooks := .later }
def ChunkMarkedUptoCardSaid : Prop := Claim7.holds Tryz.pinned (.plain (OpenSpec.upto chunkMarkedSpec)) chunkMarkedUptoCard
end Rows
end Go.Proofs.YtpbkmfnfcdhhjaaGreatDoor
