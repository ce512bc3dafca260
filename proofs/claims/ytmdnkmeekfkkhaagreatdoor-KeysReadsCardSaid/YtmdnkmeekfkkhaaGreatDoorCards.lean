/-
  DERIVED. GIVEN WITH THE SEED: THE CARDS: each row of YtmdnkmeekfkkhaaGreatDoorRows.lean that lists a variable, with what it lists TIED to the program's text (the seventh form; the later family's looks); each row that meets fmt, with fmt's text TOLD by the authors' own Lean function (tested against real Go, not proved from fmt's source: count such statements apart). THE CARD IS WHAT COUNTS. Prove the row's statement (the work); the ties are given (YtmdnkmeekfkkhaaGreatDoorTie.lean); close each card by the builder's one call (the guide's Derived/Test/ToyasCard.lean, 'card_holds'). Laid BY PROGRAM, IN A SANDBOX (cutbox-door.mjs). By AI agents, Wed Nov 11 2026. No macro, syntax, notation, axiom, sorry.
-/
import Derived.Test.YtmdnkmeekfkkhaaGreatDoorRows
import GoSem.ClaimSeven
namespace Go.Proofs.YtmdnkmeekfkkhaaGreatDoor
namespace Rows

/-- THE TIED CARD OF 'quaymasterlaw.BinaryTurns'. -/
def binaryTurnsCard : Claim7 := { stood := { row := binaryTurnsRow, standIns := [], harness := (true, "bb82f8ed7ed9d7c81aa6091255d2634efb3dd4bd8e8a76fbe7b80b8d487d2d8c"), looks := true }, kinds := [], alts := [], laidByText := true, laidKinds := [.data, .data, .data, .data, .handle, .sentinel, .sentinel, .pinned, .pinned], laidTests := true, laidLooks := .later }
def BinaryTurnsCardSaid : Prop := Claim7.holds Tryz.pinned (.plain (OpenSpec.ofChange binaryTurnsSpec)) binaryTurnsCard

/-- THE TIED CARD OF 'quaymasterlaw.KeysReads'. -/
def keysReadsCard : Claim7 := { stood := { row := keysReadsRow, standIns := [], harness := (true, "bb82f8ed7ed9d7c81aa6091255d2634efb3dd4bd8e8a76fbe7b80b8d487d2d8c"), looks := true }, kinds := [], alts := [], laidByText := true, laidKinds := [.data, .data, .data, .data, .handle, .sentinel, .sentinel, .pinned, .pinned], laidTests := true, laidLooks := .later }
def KeysReadsCardSaid : Prop := Claim7.holds Tryz.pinned (.plain (OpenSpec.ofChange keysReadsSpec)) keysReadsCard

/-- THE TIED CARD OF 'quaymasterlaw.EngineMade'. -/
def engineMadeCard : Claim7 := { stood := { row := engineMadeRow, standIns := [], harness := (true, "bb82f8ed7ed9d7c81aa6091255d2634efb3dd4bd8e8a76fbe7b80b8d487d2d8c"), looks := true }, kinds := [], alts := [], laidByText := true, laidKinds := [.data, .data, .data, .data, .handle, .sentinel, .sentinel, .listed, .data, .pinned], laidTests := true, laidLooks := .later }
def EngineMadeCardSaid : Prop := Claim7.holds Tryz.pinned (.plain (OpenSpec.ofChange engineMadeSpec)) engineMadeCard

/-- THE TIED CARD OF 'quaymasterlaw.PduReads'. -/
def pduReadsCard : Claim7 := { stood := { row := pduReadsRow, standIns := [], harness := (true, "bb82f8ed7ed9d7c81aa6091255d2634efb3dd4bd8e8a76fbe7b80b8d487d2d8c"), looks := true }, kinds := [], alts := [], laidByText := true, laidKinds := [.data, .data, .data, .data, .handle, .sentinel, .sentinel, .listed, .data, .pinned], laidTests := true, laidLooks := .later }
def PduReadsCardSaid : Prop := Claim7.holds Tryz.pinned (.plain (OpenSpec.ofChange pduReadsSpec)) pduReadsCard

/-- THE TIED CARD OF 'quaymasterlaw.FeedPlays'. -/
def feedPlaysCard : Claim7 := { stood := { row := feedPlaysRow, standIns := [], harness := (true, "bb82f8ed7ed9d7c81aa6091255d2634efb3dd4bd8e8a76fbe7b80b8d487d2d8c"), looks := true }, kinds := [], alts := [], laidByText := true, laidKinds := [.data, .data, .data, .data, .handle, .sentinel, .sentinel, .listed, .data, .pinned], laidTests := true, laidLooks := .later }
def FeedPlaysCardSaid : Prop := Claim7.holds Tryz.pinned (.plain (OpenSpec.ofChange feedPlaysSpec)) feedPlaysCard

/-- THE SECOND FORM's CARD OF 'quaymasterlaw.BinaryTurns'. -/
def binaryTurnsUptoCard : Claim7 := { stood := { row := binaryTurnsUptoRow, standIns := [], harness := (true, "bb82f8ed7ed9d7c81aa6091255d2634efb3dd4bd8e8a76fbe7b80b8d487d2d8c"), looks := true }, kinds := [], alts := [], laidByText := true, laidKinds := [.data, .data, .data, .data, .handle, .sentinel, .sentinel, .pinned, .pinned], laidTests := true, laidLooks := .later }
def BinaryTurnsUptoCardSaid : Prop := Claim7.holds Tryz.pinned (.plain (OpenSpec.upto binaryTurnsSpec)) binaryTurnsUptoCard

/-- THE SECOND FORM's CARD OF 'quaymasterlaw.KeysReads'. -/
def keysReadsUptoCard : Claim7 := { stood := { row := keysReadsUptoRow, standIns := [], harness := (true, "bb82f8ed7ed9d7c81aa6091255d2634efb3dd4bd8e8a76fbe7b80b8d487d2d8c"), looks := true }, kinds := [], alts := [], laidByText := true, laidKinds := [.data, .data, .data, .data, .handle, .sentinel, .sentinel, .pinned, .pinned], laidTests := true, laidLooks := .later }
def KeysReadsUptoCardSaid : Prop := Claim7.holds Tryz.pinned (.plain (OpenSpec.upto keysReadsSpec)) keysReadsUptoCard

/-- THE SECOND FORM's CARD OF 'quaymasterlaw.EngineMade'. -/
def engineMadeUptoCard : Claim7 := { stood := { row := engineMadeUptoRow, standIns := [], harness := (true, "bb82f8ed7ed9d7c81aa6091255d2634efb3dd4bd8e8a76fbe7b80b8d487d2d8c"), looks := true }, kinds := [], alts := [], laidByText := true, laidKinds := [.data, .data, .data, .data, .handle, .sentinel, .sentinel, .listed, .data, .pinned], laidTests := true, laidLooks := .later }
def EngineMadeUptoCardSaid : Prop := Claim7.holds Tryz.pinned (.plain (OpenSpec.upto engineMadeSpec)) engineMadeUptoCard

/-- THE SECOND FORM's CARD OF 'quaymasterlaw.PduReads'. -/
def pduReadsUptoCard : Claim7 := { stood := { row := pduReadsUptoRow, standIns := [], harness := (true, "bb82f8ed7ed9d7c81aa6091255d2634efb3dd4bd8e8a76fbe7b80b8d487d2d8c"), looks := true }, kinds := [], alts := [], laidByText := true, laidKinds := [.data, .data, .data, .data, .handle, .sentinel, .sentinel, .listed, .data, .pinned], laidTests := true, laidLooks := .later }
def PduReadsUptoCardSaid : Prop := Claim7.holds Tryz.pinned (.plain (OpenSpec.upto pduReadsSpec)) pduReadsUptoCard

/-- THE SECOND FORM's CARD OF 'quaymasterlaw.FeedPlays'. -/
def feedPlaysUptoCard : Claim7 := { stood := { row := feedPlaysUptoRow, standIns := [], harness := (true, "bb82f8ed7ed9d7c81aa6091255d2634efb3dd4bd8e8a76fbe7b80b8d487d2d8c"), looks := true }, kinds := [], alts := [], laidByText := true, laidKinds := [.data, .data, .data, .data, .handle, .sentinel, .sentinel, .listed, .data, .pinned], laidTests := true, laidLooks := .later }
def FeedPlaysUptoCardSaid : Prop := Claim7.holds Tryz.pinned (.plain (OpenSpec.upto feedPlaysSpec)) feedPlaysUptoCard
end Rows
end Go.Proofs.YtmdnkmeekfkkhaaGreatDoor
