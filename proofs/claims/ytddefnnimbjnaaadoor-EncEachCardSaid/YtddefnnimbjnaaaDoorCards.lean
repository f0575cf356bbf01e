/-
  DERIVED. GIVEN WITH THE SEED: THE CARDS: each row of YtddefnnimbjnaaaDoorRows.lean that lists a variable, with what it lists TIED to the program's text (the seventh form; the later family's looks); each row that meets fmt, with fmt's text TOLD by the authors' own Lean function (tested against real Go, not proved from fmt's source: count such statements apart). THE CARD IS WHAT COUNTS. Prove the row's statement (the work); the ties are given (YtddefnnimbjnaaaDoorTie.lean); close each card by the builder's one call (the guide's Derived/Test/ToyasCard.lean, 'card_holds'). Laid BY PROGRAM, IN A SANDBOX (cutbox-door.mjs). By AI agents, Wed Nov 11 2026. No macro, syntax, notation, axiom, sorry.
-/
import Derived.Test.YtddefnnimbjnaaaDoorRows
import GoSem.ClaimSeven
namespace Go.Proofs.YtddefnnimbjnaaaDoor
namespace Rows

/-- THE TIED CARD OF 'shredcollaw1.EncWords'. -/
def encWordsCard : Claim7 := { stood := { row := encWordsRow, standIns := [], harness := (true, "77c3338f2cd2b36ef17ac0885b0e91f9426066560c2a0d32edc860a68b86f17d"), looks := true }, kinds := [], alts := [], laidByText := true, laidKinds := [.sentinel, .sentinel], laidTests := true, laidLooks := .later }
def EncWordsCardSaid : Prop := Claim7.holds Tryd.pinned (.plain (OpenSpec.ofChange encWordsSpec)) encWordsCard

/-- THE TIED CARD OF 'shredcollaw1.EncLess'. -/
def encLessCard : Claim7 := { stood := { row := encLessRow, standIns := [], harness := (true, "77c3338f2cd2b36ef17ac0885b0e91f9426066560c2a0d32edc860a68b86f17d"), looks := true }, kinds := [], alts := [], laidByText := true, laidKinds := [.sentinel, .sentinel], laidTests := true, laidLooks := .later }
def EncLessCardSaid : Prop := Claim7.holds Tryd.pinned (.plain (OpenSpec.ofChange encLessSpec)) encLessCard

/-- THE TIED CARD OF 'shredcollaw1.EncOrder'. -/
def encOrderCard : Claim7 := { stood := { row := encOrderRow, standIns := [], harness := (true, "77c3338f2cd2b36ef17ac0885b0e91f9426066560c2a0d32edc860a68b86f17d"), looks := true }, kinds := [], alts := [], laidByText := true, laidKinds := [.sentinel, .sentinel], laidTests := true, laidLooks := .later }
def EncOrderCardSaid : Prop := Claim7.holds Tryd.pinned (.plain (OpenSpec.ofChange encOrderSpec)) encOrderCard

/-- THE TIED CARD OF 'shredcollaw1.EncPlain'. -/
def encPlainCard : Claim7 := { stood := { row := encPlainRow, standIns := [], harness := (true, "77c3338f2cd2b36ef17ac0885b0e91f9426066560c2a0d32edc860a68b86f17d"), looks := true }, kinds := [], alts := [], laidByText := true, laidKinds := [.handle, .sentinel, .sentinel, .sentinel, .sentinel, .sentinel, .sentinel, .sentinel, .sentinel], laidTests := true, laidLooks := .later }
def EncPlainCardSaid : Prop := Claim7.holds Tryd.pinned (.plain (OpenSpec.ofChange encPlainSpec)) encPlainCard

/-- THE TIED CARD OF 'shredcollaw1.EncPrefix'. -/
def encPrefixCard : Claim7 := { stood := { row := encPrefixRow, standIns := [], harness := (true, "77c3338f2cd2b36ef17ac0885b0e91f9426066560c2a0d32edc860a68b86f17d"), looks := true }, kinds := [], alts := [], laidByText := true, laidKinds := [.handle, .sentinel, .sentinel, .sentinel, .sentinel, .sentinel, .sentinel, .sentinel, .sentinel], laidTests := true, laidLooks := .later }
def EncPrefixCardSaid : Prop := Claim7.holds Tryd.pinned (.plain (OpenSpec.ofChange encPrefixSpec)) encPrefixCard

/-- THE TIED CARD OF 'shredcollaw1.EncAgain'. -/
def encAgainCard : Claim7 := { stood := { row := encAgainRow, standIns := [], harness := (true, "77c3338f2cd2b36ef17ac0885b0e91f9426066560c2a0d32edc860a68b86f17d"), looks := true }, kinds := [], alts := [], laidByText := true, laidKinds := [.sentinel, .sentinel, .sentinel], laidTests := true, laidLooks := .later }
def EncAgainCardSaid : Prop := Claim7.holds Tryd.pinned (.plain (OpenSpec.ofChange encAgainSpec)) encAgainCard

/-- THE TIED CARD OF 'shredcollaw1.EncDelta'. -/
def encDeltaCard : Claim7 := { stood := { row := encDeltaRow, standIns := [], harness := (true, "77c3338f2cd2b36ef17ac0885b0e91f9426066560c2a0d32edc860a68b86f17d"), looks := true }, kinds := [], alts := [], laidByText := true, laidKinds := [.handle, .sentinel, .sentinel, .sentinel, .sentinel, .sentinel, .sentinel, .sentinel, .sentinel], laidTests := true, laidLooks := .later }
def EncDeltaCardSaid : Prop := Claim7.holds Tryd.pinned (.plain (OpenSpec.ofChange encDeltaSpec)) encDeltaCard

/-- THE TIED CARD OF 'shredcollaw1.EncDict'. -/
def encDictCard : Claim7 := { stood := { row := encDictRow, standIns := [], harness := (true, "77c3338f2cd2b36ef17ac0885b0e91f9426066560c2a0d32edc860a68b86f17d"), looks := true }, kinds := [], alts := [], laidByText := true, laidKinds := [.handle, .sentinel, .sentinel, .sentinel, .sentinel, .sentinel, .sentinel, .sentinel, .sentinel], laidTests := true, laidLooks := .later }
def EncDictCardSaid : Prop := Claim7.holds Tryd.pinned (.plain (OpenSpec.ofChange encDictSpec)) encDictCard

/-- THE TIED CARD OF 'shredcollaw1.EncBest'. -/
def encBestCard : Claim7 := { stood := { row := encBestRow, standIns := [], harness := (true, "77c3338f2cd2b36ef17ac0885b0e91f9426066560c2a0d32edc860a68b86f17d"), looks := true }, kinds := [], alts := [], laidByText := true, laidKinds := [.handle, .sentinel, .sentinel, .sentinel, .sentinel, .sentinel, .sentinel, .sentinel, .sentinel], laidTests := true, laidLooks := .later }
def EncBestCardSaid : Prop := Claim7.holds Tryd.pinned (.plain (OpenSpec.ofChange encBestSpec)) encBestCard

/-- THE TIED CARD OF 'shredcollaw1.EncTwice'. -/
def encTwiceCard : Claim7 := { stood := { row := encTwiceRow, standIns := [], harness := (true, "77c3338f2cd2b36ef17ac0885b0e91f9426066560c2a0d32edc860a68b86f17d"), looks := true }, kinds := [], alts := [], laidByText := true, laidKinds := [.sentinel, .sentinel, .sentinel, .sentinel], laidTests := true, laidLooks := .later }
def EncTwiceCardSaid : Prop := Claim7.holds Tryd.pinned (.plain (OpenSpec.ofChange encTwiceSpec)) encTwiceCard

/-- THE TIED CARD OF 'shredcollaw1.EncEach'. -/
def encEachCard : Claim7 := { stood := { row := encEachRow, standIns := [], harness := (true, "77c3338f2cd2b36ef17ac0885b0e91f9426066560c2a0d32edc860a68b86f17d"), looks := true }, kinds := [], alts := [], laidByText := true, laidKinds := [.handle, .sentinel, .sentinel, .sentinel, .sentinel, .sentinel, .sentinel, .sentinel, .sentinel], laidTests := true, laidLooks := .later }
def EncEachCardSaid : Prop := Claim7.holds Tryd.pinned (.plain (OpenSpec.ofChange encEachSpec)) encEachCard

/-- THE TIED CARD OF 'shredcollaw1.EncReads'. -/
def encReadsCard : Claim7 := { stood := { row := encReadsRow, standIns := [], harness := (true, "77c3338f2cd2b36ef17ac0885b0e91f9426066560c2a0d32edc860a68b86f17d"), looks := true }, kinds := [], alts := [], laidByText := true, laidKinds := [.handle, .sentinel, .sentinel, .sentinel, .sentinel, .sentinel, .sentinel, .sentinel, .sentinel], laidTests := true, laidLooks := .later }
def EncReadsCardSaid : Prop := Claim7.holds Tryd.pinned (.plain (OpenSpec.ofChange encReadsSpec)) encReadsCard

/-- THE SECOND FORM's CARD OF 'shredcollaw1.EncWords'. -/
def encWordsUptoCard : Claim7 := { stood := { row := encWordsUptoRow, standIns := [], harness := (true, "77c3338f2cd2b36ef17ac0885b0e91f9426066560c2a0d32edc860a68b86f17d"), looks := true }, kinds := [], alts := [], laidByText := true, laidKinds := [.sentinel, .sentinel], laidTests := true, laidLooks := .later }
def EncWordsUptoCardSaid : Prop := Claim7.holds Tryd.pinned (.plain (OpenSpec.upto encWordsSpec)) encWordsUptoCard

/-- THE SECOND FORM's CARD OF 'shredcollaw1.EncLess'. -/
def encLessUptoCard : Claim7 := { stood := { row := encLessUptoRow, standIns := [], harness := (true, "77c3338f2cd2b36ef17ac0885b0e91f9426066560c2a0d32edc860a68b86f17d"), looks := true }, kinds := [], alts := [], laidByText := true, laidKinds := [.sentinel, .sentinel], laidTests := true, laidLooks := .later }
def EncLessUptoCardSaid : Prop := Claim7.holds Tryd.pinned (.plain (OpenSpec.upto encLessSpec)) encLessUptoCard

/-- THE SECOND FORM's CARD OF 'shredcollaw1.EncOrder'. -/
def encOrderUptoCard : Claim7 := { stood := { row := encOrderUptoRow, standIns := [], harness := (true, "77c3338f2cd2b36ef17ac0885b0e91f9426066560c2a0d32edc860a68b86f17d"), looks := true }, kinds := [], alts := [], laidByText := true, laidKinds := [.sentinel, .sentinel], laidTests := true, laidLooks := .later }
def EncOrderUptoCardSaid : Prop := Claim7.holds Tryd.pinned (.plain (OpenSpec.upto encOrderSpec)) encOrderUptoCard

/-- THE SECOND FORM's CARD OF 'shredcollaw1.EncPlain'. -/
def encPlainUptoCard : Claim7 := { stood := { row := encPlainUptoRow, standIns := [], harness := (true, "77c3338f2cd2b36ef17ac0885b0e91f9426066560c2a0d32edc860a68b86f17d"), looks := true }, kinds := [], alts := [], laidByText := true, laidKinds := [.handle, .sentinel, .sentinel, .sentinel, .sentinel, .sentinel, .sentinel, .sentinel, .sentinel], laidTests := true, laidLooks := .later }
def EncPlainUptoCardSaid : Prop := Claim7.holds Tryd.pinned (.plain (OpenSpec.upto encPlainSpec)) encPlainUptoCard

/-- THE SECOND FORM's CARD OF 'shredcollaw1.EncPrefix'. -/
def encPrefixUptoCard : Claim7 := { stood := { row := encPrefixUptoRow, standIns := [], harness := (true, "77c3338f2cd2b36ef17ac0885b0e91f9426066560c2a0d32edc860a68b86f17d"), looks := true }, kinds := [], alts := [], laidByText := true, laidKinds := [.handle, .sentinel, .sentinel, .sentinel, .sentinel, .sentinel, .sentinel, .sentinel, .sentinel], laidTests := true, laidLooks := .later }
def EncPrefixUptoCardSaid : Prop := Claim7.holds Tryd.pinned (.plain (OpenSpec.upto encPrefixSpec)) encPrefixUptoCard

/-- THE SECOND FORM's CARD OF 'shredcollaw1.EncAgain'. -/
def encAgainUptoCard : Claim7 := { stood := { row := encAgainUptoRow, standIns := [], harness := (true, "77c3338f2cd2b36ef17ac0885b0e91f9426066560c2a0d32edc860a68b86f17d"), looks := true }, kinds := [], alts := [], laidByText := true, laidKinds := [.sentinel, .sentinel, .sentinel], laidTests := true, laidLooks := .later }
def EncAgainUptoCardSaid : Prop := Claim7.holds Tryd.pinned (.plain (OpenSpec.upto encAgainSpec)) encAgainUptoCard

/-- THE SECOND FORM's CARD OF 'shredcollaw1.EncDelta'. -/
def encDeltaUptoCard : Claim7 := { stood := { row := encDeltaUptoRow, standIns := [], harness := (true, "77c3338f2cd2b36ef17ac0885b0e91f9426066560c2a0d32edc860a68b86f17d"), looks := true }, kinds := [], alts := [], laidByText := true, laidKinds := [.handle, .sentinel, .sentinel, .sentinel, .sentinel, .sentinel, .sentinel, .sentinel, .sentinel], laidTests := true, laidLooks := .later }
def EncDeltaUptoCardSaid : Prop := Claim7.holds Tryd.pinned (.plain (OpenSpec.upto encDeltaSpec)) encDeltaUptoCard

/-- THE SECOND FORM's CARD OF 'shredcollaw1.EncDict'. -/
def encDictUptoCard : Claim7 := { stood := { row := encDictUptoRow, standIns := [], harness := (true, "77c3338f2cd2b36ef17ac0885b0e91f9426066560c2a0d32edc860a68b86f17d"), looks := true }, kinds := [], alts := [], laidByText := true, laidKinds := [.handle, .sentinel, .sentinel, .sentinel, .sentinel, .sentinel, .sentinel, .sentinel, .sentinel], laidTests := true, laidLooks := .later }
def EncDictUptoCardSaid : Prop := Claim7.holds Tryd.pinned (.plain (OpenSpec.upto encDictSpec)) encDictUptoCard

/-- THE SECOND FORM's CARD OF 'shredcollaw1.EncBest'. -/
def encBestUptoCard : Claim7 := { stood := { row := encBestUptoRow, standIns := [], harness := (true, "77c3338f2cd2b36ef17ac0885b0e91f9426066560c2a0d32edc860a68b86f17d"), looks := true }, kinds := [], alts := [], laidByText := true, laidKinds := [.handle, .sentinel, .sentinel, .sentinel, .sentinel, .sentinel, .sentinel, .sentinel, .sentinel], laidTests := true, laidLooks := .later }
def EncBestUptoCardSaid : Prop := Claim7.holds Tryd.pinned (.plain (OpenSpec.upto encBestSpec)) encBestUptoCard

/-- THE SECOND FORM's CARD OF 'shredcollaw1.EncTwice'. -/
def encTwiceUptoCard : Claim7 := { stood := { row := encTwiceUptoRow, standIns := [], harness := (true, "77c3338f2cd2b36ef17ac0885b0e91f9426066560c2a0d32edc860a68b86f17d"), looks := true }, kinds := [], alts := [], laidByText := true, laidKinds := [.sentinel, .sentinel, .sentinel, .sentinel], laidTests := true, laidLooks := .later }
def EncTwiceUptoCardSaid : Prop := Claim7.holds Tryd.pinned (.plain (OpenSpec.upto encTwiceSpec)) encTwiceUptoCard

/-- THE SECOND FORM's CARD OF 'shredcollaw1.EncEach'. -/
def encEachUptoCard : Claim7 := { stood := { row := encEachUptoRow, standIns := [], harness := (true, "77c3338f2cd2b36ef17ac0885b0e91f9426066560c2a0d32edc860a68b86f17d"), looks := true }, kinds := [], alts := [], laidByText := true, laidKinds := [.handle, .sentinel, .sentinel, .sentinel, .sentinel, .sentinel, .sentinel, .sentinel, .sentinel], laidTests := true, laidLooks := .later }
def EncEachUptoCardSaid : Prop := Claim7.holds Tryd.pinned (.plain (OpenSpec.upto encEachSpec)) encEachUptoCard

/-- THE SECOND FORM's CARD OF 'shredcollaw1.EncReads'. -/
def encReadsUptoCard : Claim7 := { stood := { row := encReadsUptoRow, standIns := [], harness := (true, "77c3338f2cd2b36ef17ac0885b0e91f9426066560c2a0d32edc860a68b86f17d"), looks := true }, kinds := [], alts := [], laidByText := true, laidKinds := [.handle, .sentinel, .sentinel, .sentinel, .sentinel, .sentinel, .sentinel, .sentinel, .sentinel], laidTests := true, laidLooks := .later }
def EncReadsUptoCardSaid : Prop := Claim7.holds Tryd.pinned (.plain (OpenSpec.upto encReadsSpec)) encReadsUptoCard
end Rows
end Go.Proofs.YtddefnnimbjnaaaDoor
