/-
  DERIVED. GIVEN WITH THE SEED: THE CARDS: each row of YtaebhilgmmfalaaDoorRows.lean that lists a variable, with what it lists TIED to the program's text (the seventh form; the later family's looks); each row that meets fmt, with fmt's text TOLD by the authors' own Lean function (tested against real Go, not proved from fmt's source: count such statements apart). THE CARD IS WHAT COUNTS. Prove the row's statement (the work); the ties are given (YtaebhilgmmfalaaDoorTie.lean); close each card by the builder's one call (the guide's Derived/Test/ToyasCard.lean, 'card_holds'). Laid BY PROGRAM, IN A SANDBOX (cutbox-door.mjs). By AI agents, Wed Nov 11 2026. No macro, syntax, notation, axiom, sorry.
-/
import Derived.Test.YtaebhilgmmfalaaDoorRows
import GoSem.ClaimSeven
namespace Go.Proofs.YtaebhilgmmfalaaDoor
namespace Rows

/-- THE TIED CARD OF 'shredcollaw3.PageTurned'. -/
def pageTurnedCard : Claim7 := { stood := { row := pageTurnedRow, standIns := [], harness := (true, "f21599f716c9ff40b92fb105ec0cb6305f80cf1d9eb04ce2ad90afaa1ea6218d"), looks := false }, kinds := [], alts := [], laidByText := true, laidKinds := [.sentinel, .sentinel, .sentinel, .sentinel, .sentinel], laidTests := true, laidLooks := .later }
def PageTurnedCardSaid : Prop := Claim7.holds Tryd.pinned (.plain (OpenSpec.ofChange pageTurnedSpec)) pageTurnedCard

/-- THE TIED CARD OF 'shredcollaw3.PageTwice'. -/
def pageTwiceCard : Claim7 := { stood := { row := pageTwiceRow, standIns := [], harness := (true, "f21599f716c9ff40b92fb105ec0cb6305f80cf1d9eb04ce2ad90afaa1ea6218d"), looks := false }, kinds := [], alts := [], laidByText := true, laidKinds := [.sentinel, .sentinel, .sentinel, .sentinel, .sentinel], laidTests := true, laidLooks := .later }
def PageTwiceCardSaid : Prop := Claim7.holds Tryd.pinned (.plain (OpenSpec.ofChange pageTwiceSpec)) pageTwiceCard

/-- THE SECOND FORM's CARD OF 'shredcollaw3.PageTurned'. -/
def pageTurnedUptoCard : Claim7 := { stood := { row := pageTurnedUptoRow, standIns := [], harness := (true, "f21599f716c9ff40b92fb105ec0cb6305f80cf1d9eb04ce2ad90afaa1ea6218d"), looks := false }, kinds := [], alts := [], laidByText := true, laidKinds := [.sentinel, .sentinel, .sentinel, .sentinel, .sentinel], laidTests := true, laidLooks := .later }
def PageTurnedUptoCardSaid : Prop := Claim7.holds Tryd.pinned (.plain (OpenSpec.upto pageTurnedSpec)) pageTurnedUptoCard

/-- THE SECOND FORM's CARD OF 'shredcollaw3.PageTwice'. -/
def pageTwiceUptoCard : Claim7 := { stood := { row := pageTwiceUptoRow, standIns := [], harness := (true, "f21599f716c9ff40b92fb105ec0cb6305f80cf1d9eb04ce2ad90afaa1ea6218d"), looks := false }, kinds := [], alts := [], laidByText := true, laidKinds := [.sentinel, .sentinel, .sentinel, .sentinel, .sentinel], laidTests := true, laidLooks := .later }
def PageTwiceUptoCardSaid : Prop := Claim7.holds Tryd.pinned (.plain (OpenSpec.upto pageTwiceSpec)) pageTwiceUptoCard
end Rows
end Go.Proofs.YtaebhilgmmfalaaDoor
