/-
  DERIVED. GIVEN WITH THE SEED: THE CARDS: each row of YtejbigoacknfoaaGreatDoorRows.lean that lists a variable, with what it lists TIED to the program's text (the seventh form; the later family's looks); each row that meets fmt, with fmt's text TOLD by the authors' own Lean function (tested against real Go, not proved from fmt's source: count such statements apart). THE CARD IS WHAT COUNTS. Prove the row's statement (the work); the ties are given (YtejbigoacknfoaaGreatDoorTie.lean); close each card by the builder's one call (the guide's Derived/Test/ToyasCard.lean, 'card_holds'). Laid BY PROGRAM, IN A SANDBOX (cutbox-door.mjs). By AI agents, Wed Nov 11 2026. No macro, syntax, notation, axiom, sorry.
-/
import Derived.Test.YtejbigoacknfoaaGreatDoorRows
import GoSem.ClaimSeven
namespace Go.Proofs.YtejbigoacknfoaaGreatDoor
namespace Rows

/-- THE TIED CARD OF 'quaymasterlaw.BinaryTurns'. -/
def binaryTurnsCard : Claim7 := { stood := { row := binaryTurnsRow, standIns := [], harness := (true, "e5b4bbba3be8c172de8052c18b78d32a9bbbe1f61d56016d4ec910c909b5243c"), looks := true }, kinds := [], alts := [], laidByText := true, laidKinds := [.data, .data, .data, .data, .handle, .sentinel, .sentinel, .pinned, .pinned], laidTests := true, laidLooks := .later }
def BinaryTurnsCardSaid : Prop := Claim7.holds Tryz.pinned (.plain (OpenSpec.ofChange binaryTurnsSpec)) binaryTurnsCard

/-- THE TIED CARD OF 'quaymasterlaw.ChapChecks'. -/
def chapChecksCard : Claim7 := { stood := { row := chapChecksRow, standIns := [], harness := (true, "e5b4bbba3be8c172de8052c18b78d32a9bbbe1f61d56016d4ec910c909b5243c"), looks := true }, kinds := [], alts := [], laidByText := true, laidKinds := [.data, .data, .data, .data, .handle, .sentinel, .sentinel, .pinned, .pinned], laidTests := true, laidLooks := .later }
def ChapChecksCardSaid : Prop := Claim7.holds Tryz.pinned (.plain (OpenSpec.ofChange chapChecksSpec)) chapChecksCard

/-- THE TIED CARD OF 'quaymasterlaw.PduWrites'. -/
def pduWritesCard : Claim7 := { stood := { row := pduWritesRow, standIns := [], harness := (true, "e5b4bbba3be8c172de8052c18b78d32a9bbbe1f61d56016d4ec910c909b5243c"), looks := true }, kinds := [], alts := [], laidByText := true, laidKinds := [.data, .data, .data, .data, .handle, .sentinel, .sentinel, .listed, .data, .pinned], laidTests := true, laidLooks := .later }
def PduWritesCardSaid : Prop := Claim7.holds Tryz.pinned (.plain (OpenSpec.ofChange pduWritesSpec)) pduWritesCard

/-- THE TIED CARD OF 'quaymasterlaw.EngineMade'. -/
def engineMadeCard : Claim7 := { stood := { row := engineMadeRow, standIns := [], harness := (true, "e5b4bbba3be8c172de8052c18b78d32a9bbbe1f61d56016d4ec910c909b5243c"), looks := true }, kinds := [], alts := [], laidByText := true, laidKinds := [.data, .data, .data, .data, .handle, .sentinel, .sentinel, .listed, .data, .pinned], laidTests := true, laidLooks := .later }
def EngineMadeCardSaid : Prop := Claim7.holds Tryz.pinned (.plain (OpenSpec.ofChange engineMadeSpec)) engineMadeCard

/-- THE TIED CARD OF 'quaymasterlaw.PduReads'. -/
def pduReadsCard : Claim7 := { stood := { row := pduReadsRow, standIns := [], harness := (true, "e5b4bbba3be8c172de8052c18b78d32a9bbbe1f61d56016d4ec910c909b5243c"), looks := true }, kinds := [], alts := [], laidByText := true, laidKinds := [.data, .data, .data, .data, .handle, .sentinel, .sentinel, .listed, .data, .pinned], laidTests := true, laidLooks := .later }
def PduReadsCardSaid : Prop := Claim7.holds Tryz.pinned (.plain (OpenSpec.ofChange pduReadsSpec)) pduReadsCard

/-- THE TIED CARD OF 'quaymasterlaw.FeedPlays'. -/
def feedPlaysCard : Claim7 := { stood := { row := feedPlaysRow, standIns := [], harness := (true, "e5b4bbba3be8c172de8052c18b78d32a9bbbe1f61d56016d4ec910c909b5243c"), looks := true }, kinds := [], alts := [], laidByText := true, laidKinds := [.data, .data, .data, .data, .handle, .sentinel, .sentinel, .listed, .data, .pinned], laidTests := true, laidLooks := .later }
def FeedPlaysCardSaid : Prop := Claim7.holds Tryz.pinned (.plain (OpenSpec.ofChange feedPlaysSpec)) feedPlaysCard

/-- THE TIED CARD OF 'quaymasterlaw.TargetRights'. -/
def targetRightsCard : Claim7 := { stood := { row := targetRightsRow, standIns := [], harness := (true, "e5b4bbba3be8c172de8052c18b78d32a9bbbe1f61d56016d4ec910c909b5243c"), looks := true }, kinds := [], alts := [], laidByText := true, laidKinds := [.data, .data, .data, .data, .handle, .sentinel, .sentinel, .listed, .data, .pinned, .pinned], laidTests := true, laidLooks := .later }
def TargetRightsCardSaid : Prop := Claim7.holds Tryz.pinned (.plain (OpenSpec.ofChange targetRightsSpec)) targetRightsCard

/-- THE SECOND FORM's CARD OF 'quaymasterlaw.BinaryTurns'. -/
def binaryTurnsUptoCard : Claim7 := { stood := { row := binaryTurnsUptoRow, standIns := [], harness := (true, "e5b4bbba3be8c172de8052c18b78d32a9bbbe1f61d56016d4ec910c909b5243c"), looks := true }, kinds := [], alts := [], laidByText := true, laidKinds := [.data, .data, .data, .data, .handle, .sentinel, .sentinel, .pinned, .pinned], laidTests := true, laidLooks := .later }
def BinaryTurnsUptoCardSaid : Prop := Claim7.holds Tryz.pinned (.plain (OpenSpec.upto binaryTurnsSpec)) binaryTurnsUptoCard

/-- THE SECOND FORM's CARD OF 'quaymasterlaw.ChapChecks'. -/
def chapChecksUptoCard : Claim7 := { stood := { row := chapChecksUptoRow, standIns := [], harness := (true, "e5b4bbba3be8c172de8052c18b78d32a9bbbe1f61d56016d4ec910c909b5243c"), looks := true }, kinds := [], alts := [], laidByText := true, laidKinds := [.data, .data, .data, .data, .handle, .sentinel, .sentinel, .pinned, .pinned], laidTests := true, laidLooks := .later }
def ChapChecksUptoCardSaid : Prop := Claim7.holds Tryz.pinned (.plain (OpenSpec.upto chapChecksSpec)) chapChecksUptoCard

/-- THE SECOND FORM's CARD OF 'quaymasterlaw.PduWrites'. -/
def pduWritesUptoCard : Claim7 := { stood := { row := pduWritesUptoRow, standIns := [], harness := (true, "e5b4bbba3be8c172de8052c18b78d32a9bbbe1f61d56016d4ec910c909b5243c"), looks := true }, kinds := [], alts := [], laidByText := true, laidKinds := [.data, .data, .data, .data, .handle, .sentinel, .sentinel, .listed, .data, .pinned], laidTests := true, laidLooks := .later }
def PduWritesUptoCardSaid : Prop := Claim7.holds Tryz.pinned (.plain (OpenSpec.upto pduWritesSpec)) pduWritesUptoCard

/-- THE SECOND FORM's CARD OF 'quaymasterlaw.EngineMade'. -/
def engineMadeUptoCard : Claim7 := { stood := { row := engineMadeUptoRow, standIns := [], harness := (true, "e5b4bbba3be8c172de8052c18b78d32a9bbbe1f61d56016d4ec910c909b5243c"), looks := true }, kinds := [], alts := [], laidByText := true, laidKinds := [.data, .data, .data, .data, .handle, .sentinel, .sentinel, .listed, .data, .pinned], laidTests := true, laidLooks := .later }
def EngineMadeUptoCardSaid : Prop := Claim7.holds Tryz.pinned (.plain (OpenSpec.upto engineMadeSpec)) engineMadeUptoCard

/-- THE SECOND FORM's CARD OF 'quaymasterlaw.PduReads'. -/
def pduReadsUptoCard : Claim7 := { stood := { row := pduReadsUptoRow, standIns := [], harness := (true, "e5b4bbba3be8c172de8052c18b78d32a9bbbe1f61d56016d4ec910c909b5243c"), looks := true }, kinds := [], alts := [], laidByText := true, laidKinds := [.data, .data, .data, .data, .handle, .sentinel, .sentinel, .listed, .data, .pinned], laidTests := true, laidLooks := .later }
def PduReadsUptoCardSaid : Prop := Claim7.holds Tryz.pinned (.plain (OpenSpec.upto pduReadsSpec)) pduReadsUptoCard

/-- THE SECOND FORM's CARD OF 'quaymasterlaw.FeedPlays'. -/
def feedPlaysUptoCard : Claim7 := { stood := { row := feedPlaysUptoRow, standIns := [], harness := (true, "e5b4bbba3be8c172de8052c18b78d32a9bbbe1f61d56016d4ec910c909b5243c"), looks := true }, kinds := [], alts := [], laidByText := true, laidKinds := [.data, .data, .data, .data, .handle, .sentinel, .sentinel, .listed, .data, .pinned], laidTests := true, laidLooks := .later }
def FeedPlaysUptoCardSaid : Prop := Claim7.holds Tryz.pinned (.plain (OpenSpec.upto feedPlaysSpec)) feedPlaysUptoCard

/-- THE SECOND FORM's CARD OF 'quaymasterlaw.TargetRights'. -/
def targetRightsUptoCard : Claim7 := { stood := { row := targetRightsUptoRow, standIns := [], harness := (true, "e5b4bbba3be8c172de8052c18b78d32a9bbbe1f61d56016d4ec910c909b5243c"), looks := true }, kinds := [], alts := [], laidByText := true, laidKinds := [.data, .data, .data, .data, .handle, .sentinel, .sentinel, .listed, .data, .pinned, .pinned], laidTests := true, laidLooks := .later }
def TargetRightsUptoCardSaid : Prop := Claim7.holds Tryz.pinned (.plain (OpenSpec.upto targetRightsSpec)) targetRightsUptoCard
end Rows
end Go.Proofs.YtejbigoacknfoaaGreatDoor
