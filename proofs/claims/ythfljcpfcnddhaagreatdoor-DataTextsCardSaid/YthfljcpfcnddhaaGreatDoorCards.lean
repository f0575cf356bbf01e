/-
  DERIVED. GIVEN WITH THE SEED: THE CARDS: each row of YthfljcpfcnddhaaGreatDoorRows.lean that lists a variable, with what it lists TIED to the program's text (the seventh form; the later family's looks); each row that meets fmt, with fmt's text TOLD by the authors' own Lean function (tested against real Go, not proved from fmt's source: count such statements apart). THE CARD IS WHAT COUNTS. Prove the row's statement (the work); the ties are given (YthfljcpfcnddhaaGreatDoorTie.lean); close each card by the builder's one call (the guide's Derived/Test/ToyasCard.lean, 'card_holds'). Laid BY PROGRAM, IN A SANDBOX (cutbox-door.mjs). By AI agents, Wed Nov 11 2026. No macro, syntax, notation, axiom, sorry.
-/
import Derived.Test.YthfljcpfcnddhaaGreatDoorRows
import GoSem.ClaimSeven
namespace Go.Proofs.YthfljcpfcnddhaaGreatDoor
namespace Rows

/-- THE TIED CARD OF 'shredcollaw2.DataTexts'. -/
def dataTextsCard : Claim7 := { stood := { row := dataTextsRow, standIns := [], harness := (true, "2d0bf124c37a40eca92a2b993ecb775f54e46d8675765c2f73128a49c4e63158"), looks := true }, kinds := [], alts := [], laidByText := true, laidKinds := [.data, .data, .data, .data, .handle, .sentinel, .sentinel, .sentinel, .sentinel, .sentinel, .sentinel, .sentinel, .sentinel, .pinned], laidTests := true, laidLooks := .later }
def DataTextsCardSaid : Prop := Claim7.holds Tryz.pinned (.plain (OpenSpec.ofChange dataTextsSpec)) dataTextsCard

/-- THE TIED CARD OF 'shredcollaw2.DataWalks'. -/
def dataWalksCard : Claim7 := { stood := { row := dataWalksRow, standIns := [], harness := (true, "2d0bf124c37a40eca92a2b993ecb775f54e46d8675765c2f73128a49c4e63158"), looks := true }, kinds := [], alts := [], laidByText := true, laidKinds := [.data, .data, .data, .data, .handle, .sentinel, .sentinel, .sentinel, .sentinel, .sentinel, .sentinel, .sentinel, .sentinel, .pinned], laidTests := true, laidLooks := .later }
def DataWalksCardSaid : Prop := Claim7.holds Tryz.pinned (.plain (OpenSpec.ofChange dataWalksSpec)) dataWalksCard

/-- THE TIED CARD OF 'shredcollaw2.DataCuts'. -/
def dataCutsCard : Claim7 := { stood := { row := dataCutsRow, standIns := [], harness := (true, "2d0bf124c37a40eca92a2b993ecb775f54e46d8675765c2f73128a49c4e63158"), looks := true }, kinds := [], alts := [], laidByText := true, laidKinds := [.data, .data, .data, .data, .handle, .sentinel, .sentinel, .sentinel, .sentinel, .sentinel, .sentinel, .sentinel, .sentinel, .pinned], laidTests := true, laidLooks := .later }
def DataCutsCardSaid : Prop := Claim7.holds Tryz.pinned (.plain (OpenSpec.ofChange dataCutsSpec)) dataCutsCard

/-- THE TIED CARD OF 'shredcollaw2.DataCutTwice'. -/
def dataCutTwiceCard : Claim7 := { stood := { row := dataCutTwiceRow, standIns := [], harness := (true, "2d0bf124c37a40eca92a2b993ecb775f54e46d8675765c2f73128a49c4e63158"), looks := true }, kinds := [], alts := [], laidByText := true, laidKinds := [.data, .data, .data, .data, .sentinel, .sentinel, .sentinel, .sentinel, .sentinel, .pinned], laidTests := true, laidLooks := .later }
def DataCutTwiceCardSaid : Prop := Claim7.holds Tryz.pinned (.plain (OpenSpec.ofChange dataCutTwiceSpec)) dataCutTwiceCard

/-- THE TIED CARD OF 'shredcollaw2.DataTwice'. -/
def dataTwiceCard : Claim7 := { stood := { row := dataTwiceRow, standIns := [], harness := (true, "2d0bf124c37a40eca92a2b993ecb775f54e46d8675765c2f73128a49c4e63158"), looks := true }, kinds := [], alts := [], laidByText := true, laidKinds := [.data, .data, .data, .data, .sentinel, .sentinel, .sentinel, .sentinel, .sentinel, .sentinel, .sentinel, .pinned], laidTests := true, laidLooks := .later }
def DataTwiceCardSaid : Prop := Claim7.holds Tryz.pinned (.plain (OpenSpec.ofChange dataTwiceSpec)) dataTwiceCard

/-- THE TIED CARD OF 'shredcollaw2.DataReads'. -/
def dataReadsCard : Claim7 := { stood := { row := dataReadsRow, standIns := [], harness := (true, "2d0bf124c37a40eca92a2b993ecb775f54e46d8675765c2f73128a49c4e63158"), looks := true }, kinds := [], alts := [], laidByText := true, laidKinds := [.data, .data, .data, .data, .handle, .sentinel, .sentinel, .sentinel, .sentinel, .sentinel, .sentinel, .sentinel, .sentinel, .sentinel, .sentinel, .pinned], laidTests := true, laidLooks := .later }
def DataReadsCardSaid : Prop := Claim7.holds Tryz.pinned (.plain (OpenSpec.ofChange dataReadsSpec)) dataReadsCard

/-- THE SECOND FORM's CARD OF 'shredcollaw2.DataTexts'. -/
def dataTextsUptoCard : Claim7 := { stood := { row := dataTextsUptoRow, standIns := [], harness := (true, "2d0bf124c37a40eca92a2b993ecb775f54e46d8675765c2f73128a49c4e63158"), looks := true }, kinds := [], alts := [], laidByText := true, laidKinds := [.data, .data, .data, .data, .handle, .sentinel, .sentinel, .sentinel, .sentinel, .sentinel, .sentinel, .sentinel, .sentinel, .pinned], laidTests := true, laidLooks := .later }
def DataTextsUptoCardSaid : Prop := Claim7.holds Tryz.pinned (.plain (OpenSpec.upto dataTextsSpec)) dataTextsUptoCard

/-- THE SECOND FORM's CARD OF 'shredcollaw2.DataWalks'. -/
def dataWalksUptoCard : Claim7 := { stood := { row := dataWalksUptoRow, standIns := [], harness := (true, "2d0bf124c37a40eca92a2b993ecb775f54e46d8675765c2f73128a49c4e63158"), looks := true }, kinds := [], alts := [], laidByText := true, laidKinds := [.data, .data, .data, .data, .handle, .sentinel, .sentinel, .sentinel, .sentinel, .sentinel, .sentinel, .sentinel, .sentinel, .pinned], laidTests := true, laidLooks := .later }
def DataWalksUptoCardSaid : Prop := Claim7.holds Tryz.pinned (.plain (OpenSpec.upto dataWalksSpec)) dataWalksUptoCard

/-- THE SECOND FORM's CARD OF 'shredcollaw2.DataCuts'. -/
def dataCutsUptoCard : Claim7 := { stood := { row := dataCutsUptoRow, standIns := [], harness := (true, "2d0bf124c37a40eca92a2b993ecb775f54e46d8675765c2f73128a49c4e63158"), looks := true }, kinds := [], alts := [], laidByText := true, laidKinds := [.data, .data, .data, .data, .handle, .sentinel, .sentinel, .sentinel, .sentinel, .sentinel, .sentinel, .sentinel, .sentinel, .pinned], laidTests := true, laidLooks := .later }
def DataCutsUptoCardSaid : Prop := Claim7.holds Tryz.pinned (.plain (OpenSpec.upto dataCutsSpec)) dataCutsUptoCard

/-- THE SECOND FORM's CARD OF 'shredcollaw2.DataCutTwice'. -/
def dataCutTwiceUptoCard : Claim7 := { stood := { row := dataCutTwiceUptoRow, standIns := [], harness := (true, "2d0bf124c37a40eca92a2b993ecb775f54e46d8675765c2f73128a49c4e63158"), looks := true }, kinds := [], alts := [], laidByText := true, laidKinds := [.data, .data, .data, .data, .sentinel, .sentinel, .sentinel, .sentinel, .sentinel, .pinned], laidTests := true, laidLooks := .later }
def DataCutTwiceUptoCardSaid : Prop := Claim7.holds Tryz.pinned (.plain (OpenSpec.upto dataCutTwiceSpec)) dataCutTwiceUptoCard

/-- THE SECOND FORM's CARD OF 'shredcollaw2.DataTwice'. -/
def dataTwiceUptoCard : Claim7 := { stood := { row := dataTwiceUptoRow, standIns := [], harness := (true, "2d0bf124c37a40eca92a2b993ecb775f54e46d8675765c2f73128a49c4e63158"), looks := true }, kinds := [], alts := [], laidByText := true, laidKinds := [.data, .data, .data, .data, .sentinel, .sentinel, .sentinel, .sentinel, .sentinel, .sentinel, .sentinel, .pinned], laidTests := true, laidLooks := .later }
def DataTwiceUptoCardSaid : Prop := Claim7.holds Tryz.pinned (.plain (OpenSpec.upto dataTwiceSpec)) dataTwiceUptoCard

/-- THE SECOND FORM's CARD OF 'shredcollaw2.DataReads'. -/
def dataReadsUptoCard : Claim7 := { stood := { row := dataReadsUptoRow, standIns := [], harness := (true, "2d0bf124c37a40eca92a2b993ecb775f54e46d8675765c2f73128a49c4e63158"), looks := true }, kinds := [], alts := [], laidByText := true, laidKinds := [.data, .data, .data, .data, .handle, .sentinel, .sentinel, .sentinel, .sentinel, .sentinel, .sentinel, .sentinel, .sentinel, .sentinel, .sentinel, .pinned], laidTests := true, laidLooks := .later }
def DataReadsUptoCardSaid : Prop := Claim7.holds Tryz.pinned (.plain (OpenSpec.upto dataReadsSpec)) dataReadsUptoCard
end Rows
end Go.Proofs.YthfljcpfcnddhaaGreatDoor
