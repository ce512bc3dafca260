/-
  DERIVED. GIVEN WITH THE SEED: THE CARDS: each row of YtnkdbmenmaabjaaGreatDoorRows.lean that lists a variable, with what it lists TIED to the program's text (the seventh form; the later family's looks); each row that meets fmt, with fmt's text TOLD by the authors' own Lean function (tested against real Go, not proved from fmt's source: count such statements apart). THE CARD IS WHAT COUNTS. Prove the row's statement (the work); the ties are given (YtnkdbmenmaabjaaGreatDoorTie.lean); close each card by the builder's one call (the guide's Derived/Test/ToyasCard.lean, 'card_holds'). Laid BY PROGRAM, IN A SANDBOX (cutbox-door.mjs). By AI agents, Wed Nov 11 2026. No macro, syntax, notation, axiom, sorry.
-/
import Derived.Test.YtnkdbmenmaabjaaGreatDoorRows
import GoSem.ClaimSeven
namespace Go.Proofs.YtnkdbmenmaabjaaGreatDoor
namespace Rows

/-- THE TIED CARD OF 'quaymasterlaw.BinaryTurns'. -/
def binaryTurnsCard : Claim7 := { stood := { row := binaryTurnsRow, standIns := [], harness := (true, "336ae965d5d1849b8bdce8449d8ff294c29473858eb864b4200a0a1a254d274f"), looks := true }, kinds := [], alts := [], laidByText := true, laidKinds := [.data, .data, .data, .data, .handle, .sentinel, .sentinel, .pinned, .pinned], laidTests := true, laidLooks := .later }
def BinaryTurnsCardSaid : Prop := Claim7.holds Tryz.pinned (.plain (OpenSpec.ofChange binaryTurnsSpec)) binaryTurnsCard

/-- THE TIED CARD OF 'quaymasterlaw.HeadMakes'. -/
def headMakesCard : Claim7 := { stood := { row := headMakesRow, standIns := [], harness := (true, "336ae965d5d1849b8bdce8449d8ff294c29473858eb864b4200a0a1a254d274f"), looks := true }, kinds := [], alts := [], laidByText := true, laidKinds := [.data, .data, .data, .data, .handle, .sentinel, .sentinel, .listed, .data, .pinned], laidTests := true, laidLooks := .later }
def HeadMakesCardSaid : Prop := Claim7.holds Tryz.pinned (.plain (OpenSpec.ofChange headMakesSpec)) headMakesCard

/-- THE TIED CARD OF 'quaymasterlaw.HeadReads'. -/
def headReadsCard : Claim7 := { stood := { row := headReadsRow, standIns := [], harness := (true, "336ae965d5d1849b8bdce8449d8ff294c29473858eb864b4200a0a1a254d274f"), looks := true }, kinds := [], alts := [], laidByText := true, laidKinds := [.data, .data, .data, .data, .handle, .sentinel, .sentinel, .listed, .data, .pinned], laidTests := true, laidLooks := .later }
def HeadReadsCardSaid : Prop := Claim7.holds Tryz.pinned (.plain (OpenSpec.ofChange headReadsSpec)) headReadsCard

/-- THE SECOND FORM's CARD OF 'quaymasterlaw.BinaryTurns'. -/
def binaryTurnsUptoCard : Claim7 := { stood := { row := binaryTurnsUptoRow, standIns := [], harness := (true, "336ae965d5d1849b8bdce8449d8ff294c29473858eb864b4200a0a1a254d274f"), looks := true }, kinds := [], alts := [], laidByText := true, laidKinds := [.data, .data, .data, .data, .handle, .sentinel, .sentinel, .pinned, .pinned], laidTests := true, laidLooks := .later }
def BinaryTurnsUptoCardSaid : Prop := Claim7.holds Tryz.pinned (.plain (OpenSpec.upto binaryTurnsSpec)) binaryTurnsUptoCard

/-- THE SECOND FORM's CARD OF 'quaymasterlaw.HeadMakes'. -/
def headMakesUptoCard : Claim7 := { stood := { row := headMakesUptoRow, standIns := [], harness := (true, "336ae965d5d1849b8bdce8449d8ff294c29473858eb864b4200a0a1a254d274f"), looks := true }, kinds := [], alts := [], laidByText := true, laidKinds := [.data, .data, .data, .data, .handle, .sentinel, .sentinel, .listed, .data, .pinned], laidTests := true, laidLooks := .later }
def HeadMakesUptoCardSaid : Prop := Claim7.holds Tryz.pinned (.plain (OpenSpec.upto headMakesSpec)) headMakesUptoCard

/-- THE SECOND FORM's CARD OF 'quaymasterlaw.HeadReads'. -/
def headReadsUptoCard : Claim7 := { stood := { row := headReadsUptoRow, standIns := [], harness := (true, "336ae965d5d1849b8bdce8449d8ff294c29473858eb864b4200a0a1a254d274f"), looks := true }, kinds := [], alts := [], laidByText := true, laidKinds := [.data, .data, .data, .data, .handle, .sentinel, .sentinel, .listed, .data, .pinned], laidTests := true, laidLooks := .later }
def HeadReadsUptoCardSaid : Prop := Claim7.holds Tryz.pinned (.plain (OpenSpec.upto headReadsSpec)) headReadsUptoCard
end Rows
end Go.Proofs.YtnkdbmenmaabjaaGreatDoor
