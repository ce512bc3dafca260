/-
  DERIVED. GIVEN WITH THE SEED: THE CARDS: each row of YtkkjmfllibnfcaaGreatDoorRows.lean that lists a variable, with what it lists TIED to the program's text (the seventh form; the later family's looks); each row that meets fmt, with fmt's text TOLD by the authors' own Lean function (tested against real Go, not proved from fmt's source: count such statements apart). THE CARD IS WHAT COUNTS. Prove the row's statement (the work); the ties are given (YtkkjmfllibnfcaaGreatDoorTie.lean); close each card by the builder's one call (the guide's Derived/Test/ToyasCard.lean, 'card_holds'). Laid BY PROGRAM, IN A SANDBOX (cutbox-door.mjs). By AI agents, Wed Nov 11 2026. No macro, syntax, notation, axiom, sorry.
-/
import Derived.Test.YtkkjmfllibnfcaaGreatDoorRows
import GoSem.ClaimSeven
namespace Go.Proofs.YtkkjmfllibnfcaaGreatDoor
namespace Rows

/-- THE TIED CARD OF 'quaymasterlaw.BinaryTurns'. -/
def binaryTurnsCard : Claim7 := { stood := { row := binaryTurnsRow, standIns := [], harness := (true, "d7e49c54bb77f7c96b909b28230e7dfa89ec877c982f837be25e2145f2dd6171"), looks := true }, kinds := [], alts := [], laidByText := true, laidKinds := [.data, .data, .data, .data, .handle, .sentinel, .sentinel, .pinned, .pinned], laidTests := true, laidLooks := .later }
def BinaryTurnsCardSaid : Prop := Claim7.holds Tryz.pinned (.plain (OpenSpec.ofChange binaryTurnsSpec)) binaryTurnsCard

/-- THE TIED CARD OF 'quaymasterlaw.HeadKnows'. -/
def headKnowsCard : Claim7 := { stood := { row := headKnowsRow, standIns := [], harness := (true, "d7e49c54bb77f7c96b909b28230e7dfa89ec877c982f837be25e2145f2dd6171"), looks := true }, kinds := [], alts := [], laidByText := true, laidKinds := [.data, .data, .data, .data, .handle, .sentinel, .sentinel, .listed, .data, .pinned], laidTests := true, laidLooks := .later }
def HeadKnowsCardSaid : Prop := Claim7.holds Tryz.pinned (.plain (OpenSpec.ofChange headKnowsSpec)) headKnowsCard

/-- THE TIED CARD OF 'quaymasterlaw.HeadMakes'. -/
def headMakesCard : Claim7 := { stood := { row := headMakesRow, standIns := [], harness := (true, "d7e49c54bb77f7c96b909b28230e7dfa89ec877c982f837be25e2145f2dd6171"), looks := true }, kinds := [], alts := [], laidByText := true, laidKinds := [.data, .data, .data, .data, .handle, .sentinel, .sentinel, .listed, .data, .pinned], laidTests := true, laidLooks := .later }
def HeadMakesCardSaid : Prop := Claim7.holds Tryz.pinned (.plain (OpenSpec.ofChange headMakesSpec)) headMakesCard

/-- THE TIED CARD OF 'quaymasterlaw.HeadReads'. -/
def headReadsCard : Claim7 := { stood := { row := headReadsRow, standIns := [], harness := (true, "d7e49c54bb77f7c96b909b28230e7dfa89ec877c982f837be25e2145f2dd6171"), looks := true }, kinds := [], alts := [], laidByText := true, laidKinds := [.data, .data, .data, .data, .handle, .sentinel, .sentinel, .listed, .data, .pinned], laidTests := true, laidLooks := .later }
def HeadReadsCardSaid : Prop := Claim7.holds Tryz.pinned (.plain (OpenSpec.ofChange headReadsSpec)) headReadsCard

/-- THE TIED CARD OF 'quaymasterlaw.HeadWrites'. -/
def headWritesCard : Claim7 := { stood := { row := headWritesRow, standIns := [], harness := (true, "d7e49c54bb77f7c96b909b28230e7dfa89ec877c982f837be25e2145f2dd6171"), looks := true }, kinds := [], alts := [], laidByText := true, laidKinds := [.data, .data, .data, .data, .handle, .sentinel, .sentinel, .listed, .data, .pinned], laidTests := true, laidLooks := .later }
def HeadWritesCardSaid : Prop := Claim7.holds Tryz.pinned (.plain (OpenSpec.ofChange headWritesSpec)) headWritesCard

/-- THE SECOND FORM's CARD OF 'quaymasterlaw.BinaryTurns'. -/
def binaryTurnsUptoCard : Claim7 := { stood := { row := binaryTurnsUptoRow, standIns := [], harness := (true, "d7e49c54bb77f7c96b909b28230e7dfa89ec877c982f837be25e2145f2dd6171"), looks := true }, kinds := [], alts := [], laidByText := true, laidKinds := [.data, .data, .data, .data, .handle, .sentinel, .sentinel, .pinned, .pinned], laidTests := true, laidLooks := .later }
def BinaryTurnsUptoCardSaid : Prop := Claim7.holds Tryz.pinned (.plain (OpenSpec.upto binaryTurnsSpec)) binaryTurnsUptoCard

/-- THE SECOND FORM's CARD OF 'quaymasterlaw.HeadKnows'. -/
def headKnowsUptoCard : Claim7 := { stood := { row := headKnowsUptoRow, standIns := [], harness := (true, "d7e49c54bb77f7c96b909b28230e7dfa89ec877c982f837be25e2145f2dd6171"), looks := true }, kinds := [], alts := [], laidByText := true, laidKinds := [.data, .data, .data, .data, .handle, .sentinel, .sentinel, .listed, .data, .pinned], laidTests := true, laidLooks := .later }
def HeadKnowsUptoCardSaid : Prop := Claim7.holds Tryz.pinned (.plain (OpenSpec.upto headKnowsSpec)) headKnowsUptoCard

/-- THE SECOND FORM's CARD OF 'quaymasterlaw.HeadMakes'. -/
def headMakesUptoCard : Claim7 := { stood := { row := headMakesUptoRow, standIns := [], harness := (true, "d7e49c54bb77f7c96b909b28230e7dfa89ec877c982f837be25e2145f2dd6171"), looks := true }, kinds := [], alts := [], laidByText := true, laidKinds := [.data, .data, .data, .data, .handle, .sentinel, .sentinel, .listed, .data, .pinned], laidTests := true, laidLooks := .later }
def HeadMakesUptoCardSaid : Prop := Claim7.holds Tryz.pinned (.plain (OpenSpec.upto headMakesSpec)) headMakesUptoCard

/-- THE SECOND FORM's CARD OF 'quaymasterlaw.HeadReads'. -/
def headReadsUptoCard : Claim7 := { stood := { row := headReadsUptoRow, standIns := [], harness := (true, "d7e49c54bb77f7c96b909b28230e7dfa89ec877c982f837be25e2145f2dd6171"), looks := true }, kinds := [], alts := [], laidByText := true, laidKinds := [.data, .data, .data, .data, .handle, .sentinel, .sentinel, .listed, .data, .pinned], laidTests := true, laidLooks := .later }
def HeadReadsUptoCardSaid : Prop := Claim7.holds Tryz.pinned (.plain (OpenSpec.upto headReadsSpec)) headReadsUptoCard

/-- THE SECOND FORM's CARD OF 'quaymasterlaw.HeadWrites'. -/
def headWritesUptoCard : Claim7 := { stood := { row := headWritesUptoRow, standIns := [], harness := (true, "d7e49c54bb77f7c96b909b28230e7dfa89ec877c982f837be25e2145f2dd6171"), looks := true }, kinds := [], alts := [], laidByText := true, laidKinds := [.data, .data, .data, .data, .handle, .sentinel, .sentinel, .listed, .data, .pinned], laidTests := true, laidLooks := .later }
def HeadWritesUptoCardSaid : Prop := Claim7.holds Tryz.pinned (.plain (OpenSpec.upto headWritesSpec)) headWritesUptoCard
end Rows
end Go.Proofs.YtkkjmfllibnfcaaGreatDoor
