/-
  DERIVED. GIVEN WITH THE SEED: THE CARDS: each row of YtehklkmnbhgebaaDoorRows.lean that lists a variable, with what it lists TIED to the program's text (the seventh form; the later family's looks); each row that meets fmt, with fmt's text TOLD by the authors' own Lean function (tested against real Go, not proved from fmt's source: count such statements apart). THE CARD IS WHAT COUNTS. Prove the row's statement (the work); the ties are given (YtehklkmnbhgebaaDoorTie.lean); close each card by the builder's one call (the guide's Derived/Test/ToyasCard.lean, 'card_holds'). Laid BY PROGRAM, IN A SANDBOX (cutbox-door.mjs). By AI agents, Wed Nov 11 2026. No macro, syntax, notation, axiom, sorry.
-/
import Derived.Test.YtehklkmnbhgebaaDoorRows
import GoSem.ClaimSeven
namespace Go.Proofs.YtehklkmnbhgebaaDoor
namespace Rows

/-- THE TIED CARD OF 'shredcollaw1.WireTwice'. -/
def wireTwiceCard : Claim7 := { stood := { row := wireTwiceRow, standIns := [], harness := (true, "b7a21360c3a0bdb5a5c88234c4b8431d6ba7c9e6bb7723474ba0bb513f4c172e"), looks := true }, kinds := [], alts := [], laidByText := true, laidKinds := [.sentinel], laidTests := true, laidLooks := .later }
def WireTwiceCardSaid : Prop := Claim7.holds Tryd.pinned (.plain (OpenSpec.ofChange wireTwiceSpec)) wireTwiceCard

/-- THE TIED CARD OF 'shredcollaw1.BitsWidth'. -/
def bitsWidthCard : Claim7 := { stood := { row := bitsWidthRow, standIns := [], harness := (true, "b7a21360c3a0bdb5a5c88234c4b8431d6ba7c9e6bb7723474ba0bb513f4c172e"), looks := true }, kinds := [], alts := [], laidByText := true, laidKinds := [.sentinel, .sentinel], laidTests := true, laidLooks := .later }
def BitsWidthCardSaid : Prop := Claim7.holds Tryd.pinned (.plain (OpenSpec.ofChange bitsWidthSpec)) bitsWidthCard

/-- THE TIED CARD OF 'shredcollaw1.Names'. -/
def namesCard : Claim7 := { stood := { row := namesRow, standIns := [], harness := (true, "b7a21360c3a0bdb5a5c88234c4b8431d6ba7c9e6bb7723474ba0bb513f4c172e"), looks := true }, kinds := [], alts := [], laidByText := true, laidKinds := [.handle, .sentinel, .sentinel, .sentinel, .sentinel, .sentinel, .sentinel, .sentinel, .sentinel], laidTests := true, laidLooks := .later }
def NamesCardSaid : Prop := Claim7.holds Tryd.pinned (.plain (OpenSpec.ofChange namesSpec)) namesCard

/-- THE TIED CARD OF 'shredcollaw1.BitsTwice'. -/
def bitsTwiceCard : Claim7 := { stood := { row := bitsTwiceRow, standIns := [], harness := (true, "b7a21360c3a0bdb5a5c88234c4b8431d6ba7c9e6bb7723474ba0bb513f4c172e"), looks := true }, kinds := [], alts := [], laidByText := true, laidKinds := [.sentinel, .sentinel, .sentinel], laidTests := true, laidLooks := .later }
def BitsTwiceCardSaid : Prop := Claim7.holds Tryd.pinned (.plain (OpenSpec.ofChange bitsTwiceSpec)) bitsTwiceCard

/-- THE TIED CARD OF 'shredcollaw1.WireReads'. -/
def wireReadsCard : Claim7 := { stood := { row := wireReadsRow, standIns := [], harness := (true, "b7a21360c3a0bdb5a5c88234c4b8431d6ba7c9e6bb7723474ba0bb513f4c172e"), looks := true }, kinds := [], alts := [], laidByText := true, laidKinds := [.handle, .sentinel, .sentinel, .sentinel, .sentinel, .sentinel, .sentinel, .sentinel, .sentinel], laidTests := true, laidLooks := .later }
def WireReadsCardSaid : Prop := Claim7.holds Tryd.pinned (.plain (OpenSpec.ofChange wireReadsSpec)) wireReadsCard

/-- THE TIED CARD OF 'shredcollaw1.WireFixed'. -/
def wireFixedCard : Claim7 := { stood := { row := wireFixedRow, standIns := [], harness := (true, "b7a21360c3a0bdb5a5c88234c4b8431d6ba7c9e6bb7723474ba0bb513f4c172e"), looks := true }, kinds := [], alts := [], laidByText := true, laidKinds := [.handle, .sentinel, .sentinel, .sentinel, .sentinel, .sentinel, .sentinel, .sentinel, .sentinel], laidTests := true, laidLooks := .later }
def WireFixedCardSaid : Prop := Claim7.holds Tryd.pinned (.plain (OpenSpec.ofChange wireFixedSpec)) wireFixedCard

/-- THE TIED CARD OF 'shredcollaw1.WireText'. -/
def wireTextCard : Claim7 := { stood := { row := wireTextRow, standIns := [], harness := (true, "b7a21360c3a0bdb5a5c88234c4b8431d6ba7c9e6bb7723474ba0bb513f4c172e"), looks := true }, kinds := [], alts := [], laidByText := true, laidKinds := [.handle, .sentinel, .sentinel, .sentinel, .sentinel, .sentinel, .sentinel, .sentinel, .sentinel], laidTests := true, laidLooks := .later }
def WireTextCardSaid : Prop := Claim7.holds Tryd.pinned (.plain (OpenSpec.ofChange wireTextSpec)) wireTextCard

/-- THE TIED CARD OF 'shredcollaw1.BitsPack'. -/
def bitsPackCard : Claim7 := { stood := { row := bitsPackRow, standIns := [], harness := (true, "b7a21360c3a0bdb5a5c88234c4b8431d6ba7c9e6bb7723474ba0bb513f4c172e"), looks := true }, kinds := [], alts := [], laidByText := true, laidKinds := [.handle, .sentinel, .sentinel, .sentinel, .sentinel, .sentinel, .sentinel, .sentinel, .sentinel], laidTests := true, laidLooks := .later }
def BitsPackCardSaid : Prop := Claim7.holds Tryd.pinned (.plain (OpenSpec.ofChange bitsPackSpec)) bitsPackCard

/-- THE TIED CARD OF 'shredcollaw1.BitsUnpack'. -/
def bitsUnpackCard : Claim7 := { stood := { row := bitsUnpackRow, standIns := [], harness := (true, "b7a21360c3a0bdb5a5c88234c4b8431d6ba7c9e6bb7723474ba0bb513f4c172e"), looks := true }, kinds := [], alts := [], laidByText := true, laidKinds := [.handle, .sentinel, .sentinel, .sentinel, .sentinel, .sentinel, .sentinel, .sentinel, .sentinel], laidTests := true, laidLooks := .later }
def BitsUnpackCardSaid : Prop := Claim7.holds Tryd.pinned (.plain (OpenSpec.ofChange bitsUnpackSpec)) bitsUnpackCard

/-- THE TIED CARD OF 'shredcollaw1.BitsReads'. -/
def bitsReadsCard : Claim7 := { stood := { row := bitsReadsRow, standIns := [], harness := (true, "b7a21360c3a0bdb5a5c88234c4b8431d6ba7c9e6bb7723474ba0bb513f4c172e"), looks := true }, kinds := [], alts := [], laidByText := true, laidKinds := [.handle, .sentinel, .sentinel, .sentinel, .sentinel, .sentinel, .sentinel, .sentinel, .sentinel], laidTests := true, laidLooks := .later }
def BitsReadsCardSaid : Prop := Claim7.holds Tryd.pinned (.plain (OpenSpec.ofChange bitsReadsSpec)) bitsReadsCard

/-- THE TIED CARD OF 'shredcollaw1.BitsRuns'. -/
def bitsRunsCard : Claim7 := { stood := { row := bitsRunsRow, standIns := [], harness := (true, "b7a21360c3a0bdb5a5c88234c4b8431d6ba7c9e6bb7723474ba0bb513f4c172e"), looks := true }, kinds := [], alts := [], laidByText := true, laidKinds := [.handle, .sentinel, .sentinel, .sentinel, .sentinel, .sentinel, .sentinel, .sentinel, .sentinel], laidTests := true, laidLooks := .later }
def BitsRunsCardSaid : Prop := Claim7.holds Tryd.pinned (.plain (OpenSpec.ofChange bitsRunsSpec)) bitsRunsCard

/-- THE SECOND FORM's CARD OF 'shredcollaw1.WireTwice'. -/
def wireTwiceUptoCard : Claim7 := { stood := { row := wireTwiceUptoRow, standIns := [], harness := (true, "b7a21360c3a0bdb5a5c88234c4b8431d6ba7c9e6bb7723474ba0bb513f4c172e"), looks := true }, kinds := [], alts := [], laidByText := true, laidKinds := [.sentinel], laidTests := true, laidLooks := .later }
def WireTwiceUptoCardSaid : Prop := Claim7.holds Tryd.pinned (.plain (OpenSpec.upto wireTwiceSpec)) wireTwiceUptoCard

/-- THE SECOND FORM's CARD OF 'shredcollaw1.BitsWidth'. -/
def bitsWidthUptoCard : Claim7 := { stood := { row := bitsWidthUptoRow, standIns := [], harness := (true, "b7a21360c3a0bdb5a5c88234c4b8431d6ba7c9e6bb7723474ba0bb513f4c172e"), looks := true }, kinds := [], alts := [], laidByText := true, laidKinds := [.sentinel, .sentinel], laidTests := true, laidLooks := .later }
def BitsWidthUptoCardSaid : Prop := Claim7.holds Tryd.pinned (.plain (OpenSpec.upto bitsWidthSpec)) bitsWidthUptoCard

/-- THE SECOND FORM's CARD OF 'shredcollaw1.Names'. -/
def namesUptoCard : Claim7 := { stood := { row := namesUptoRow, standIns := [], harness := (true, "b7a21360c3a0bdb5a5c88234c4b8431d6ba7c9e6bb7723474ba0bb513f4c172e"), looks := true }, kinds := [], alts := [], laidByText := true, laidKinds := [.handle, .sentinel, .sentinel, .sentinel, .sentinel, .sentinel, .sentinel, .sentinel, .sentinel], laidTests := true, laidLooks := .later }
def NamesUptoCardSaid : Prop := Claim7.holds Tryd.pinned (.plain (OpenSpec.upto namesSpec)) namesUptoCard

/-- THE SECOND FORM's CARD OF 'shredcollaw1.BitsTwice'. -/
def bitsTwiceUptoCard : Claim7 := { stood := { row := bitsTwiceUptoRow, standIns := [], harness := (true, "b7a21360c3a0bdb5a5c88234c4b8431d6ba7c9e6bb7723474ba0bb513f4c172e"), looks := true }, kinds := [], alts := [], laidByText := true, laidKinds := [.sentinel, .sentinel, .sentinel], laidTests := true, laidLooks := .later }
def BitsTwiceUptoCardSaid : Prop := Claim7.holds Tryd.pinned (.plain (OpenSpec.upto bitsTwiceSpec)) bitsTwiceUptoCard

/-- THE SECOND FORM's CARD OF 'shredcollaw1.WireReads'. -/
def wireReadsUptoCard : Claim7 := { stood := { row := wireReadsUptoRow, standIns := [], harness := (true, "b7a21360c3a0bdb5a5c88234c4b8431d6ba7c9e6bb7723474ba0bb513f4c172e"), looks := true }, kinds := [], alts := [], laidByText := true, laidKinds := [.handle, .sentinel, .sentinel, .sentinel, .sentinel, .sentinel, .sentinel, .sentinel, .sentinel], laidTests := true, laidLooks := .later }
def WireReadsUptoCardSaid : Prop := Claim7.holds Tryd.pinned (.plain (OpenSpec.upto wireReadsSpec)) wireReadsUptoCard

/-- THE SECOND FORM's CARD OF 'shredcollaw1.WireFixed'. -/
def wireFixedUptoCard : Claim7 := { stood := { row := wireFixedUptoRow, standIns := [], harness := (true, "b7a21360c3a0bdb5a5c88234c4b8431d6ba7c9e6bb7723474ba0bb513f4c172e"), looks := true }, kinds := [], alts := [], laidByText := true, laidKinds := [.handle, .sentinel, .sentinel, .sentinel, .sentinel, .sentinel, .sentinel, .sentinel, .sentinel], laidTests := true, laidLooks := .later }
def WireFixedUptoCardSaid : Prop := Claim7.holds Tryd.pinned (.plain (OpenSpec.upto wireFixedSpec)) wireFixedUptoCard

/-- THE SECOND FORM's CARD OF 'shredcollaw1.WireText'. -/
def wireTextUptoCard : Claim7 := { stood := { row := wireTextUptoRow, standIns := [], harness := (true, "b7a21360c3a0bdb5a5c88234c4b8431d6ba7c9e6bb7723474ba0bb513f4c172e"), looks := true }, kinds := [], alts := [], laidByText := true, laidKinds := [.handle, .sentinel, .sentinel, .sentinel, .sentinel, .sentinel, .sentinel, .sentinel, .sentinel], laidTests := true, laidLooks := .later }
def WireTextUptoCardSaid : Prop := Claim7.holds Tryd.pinned (.plain (OpenSpec.upto wireTextSpec)) wireTextUptoCard

/-- THE SECOND FORM's CARD OF 'shredcollaw1.BitsPack'. -/
def bitsPackUptoCard : Claim7 := { stood := { row := bitsPackUptoRow, standIns := [], harness := (true, "b7a21360c3a0bdb5a5c88234c4b8431d6ba7c9e6bb7723474ba0bb513f4c172e"), looks := true }, kinds := [], alts := [], laidByText := true, laidKinds := [.handle, .sentinel, .sentinel, .sentinel, .sentinel, .sentinel, .sentinel, .sentinel, .sentinel], laidTests := true, laidLooks := .later }
def BitsPackUptoCardSaid : Prop := Claim7.holds Tryd.pinned (.plain (OpenSpec.upto bitsPackSpec)) bitsPackUptoCard

/-- THE SECOND FORM's CARD OF 'shredcollaw1.BitsUnpack'. -/
def bitsUnpackUptoCard : Claim7 := { stood := { row := bitsUnpackUptoRow, standIns := [], harness := (true, "b7a21360c3a0bdb5a5c88234c4b8431d6ba7c9e6bb7723474ba0bb513f4c172e"), looks := true }, kinds := [], alts := [], laidByText := true, laidKinds := [.handle, .sentinel, .sentinel, .sentinel, .sentinel, .sentinel, .sentinel, .sentinel, .sentinel], laidTests := true, laidLooks := .later }
def BitsUnpackUptoCardSaid : Prop := Claim7.holds Tryd.pinned (.plain (OpenSpec.upto bitsUnpackSpec)) bitsUnpackUptoCard

/-- THE SECOND FORM's CARD OF 'shredcollaw1.BitsReads'. -/
def bitsReadsUptoCard : Claim7 := { stood := { row := bitsReadsUptoRow, standIns := [], harness := (true, "b7a21360c3a0bdb5a5c88234c4b8431d6ba7c9e6bb7723474ba0bb513f4c172e"), looks := true }, kinds := [], alts := [], laidByText := true, laidKinds := [.handle, .sentinel, .sentinel, .sentinel, .sentinel, .sentinel, .sentinel, .sentinel, .sentinel], laidTests := true, laidLooks := .later }
def BitsReadsUptoCardSaid : Prop := Claim7.holds Tryd.pinned (.plain (OpenSpec.upto bitsReadsSpec)) bitsReadsUptoCard

/-- THE SECOND FORM's CARD OF 'shredcollaw1.BitsRuns'. -/
def bitsRunsUptoCard : Claim7 := { stood := { row := bitsRunsUptoRow, standIns := [], harness := (true, "b7a21360c3a0bdb5a5c88234c4b8431d6ba7c9e6bb7723474ba0bb513f4c172e"), looks := true }, kinds := [], alts := [], laidByText := true, laidKinds := [.handle, .sentinel, .sentinel, .sentinel, .sentinel, .sentinel, .sentinel, .sentinel, .sentinel], laidTests := true, laidLooks := .later }
def BitsRunsUptoCardSaid : Prop := Claim7.holds Tryd.pinned (.plain (OpenSpec.upto bitsRunsSpec)) bitsRunsUptoCard
end Rows
end Go.Proofs.YtehklkmnbhgebaaDoor
