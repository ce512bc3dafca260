/-
  DERIVED. GIVEN WITH THE SEED: THE CARDS: each row of YtdpgchofnglceaaGreatDoorRows.lean that lists a variable, with what it lists TIED to the program's text (the seventh form; the later family's looks); each row that meets fmt, with fmt's text TOLD by the authors' own Lean function (tested against real Go, not proved from fmt's source: count such statements apart). THE CARD IS WHAT COUNTS. Prove the row's statement (the work); the ties are given (YtdpgchofnglceaaGreatDoorTie.lean); close each card by the builder's one call (the guide's Derived/Test/ToyasCard.lean, 'card_holds'). Laid BY PROGRAM, IN A SANDBOX (cutbox-door.mjs). By AI agents, Wed Nov 11 2026. No macro, syntax, notation, axiom, sorry.
-/
import Derived.Test.YtdpgchofnglceaaGreatDoorRows
import GoSem.ClaimSeven
namespace Go.Proofs.YtdpgchofnglceaaGreatDoor
namespace Rows

/-- THE TIED CARD OF 'quaymasterlaw.BinaryTurns'. -/
def binaryTurnsCard : Claim7 := { stood := { row := binaryTurnsRow, standIns := [], harness := (true, "4e71f85172dcce211afed119d6e1dd443b07c36506b52a3aa33a4348e10ed385"), looks := true }, kinds := [], alts := [], laidByText := true, laidKinds := [.data, .data, .data, .data, .handle, .sentinel, .sentinel, .pinned, .pinned], laidTests := true, laidLooks := .later }
def BinaryTurnsCardSaid : Prop := Claim7.holds Tryz.pinned (.plain (OpenSpec.ofChange binaryTurnsSpec)) binaryTurnsCard

/-- THE TIED CARD OF 'quaymasterlaw.ChapChecks'. -/
def chapChecksCard : Claim7 := { stood := { row := chapChecksRow, standIns := [], harness := (true, "4e71f85172dcce211afed119d6e1dd443b07c36506b52a3aa33a4348e10ed385"), looks := true }, kinds := [], alts := [], laidByText := true, laidKinds := [.data, .data, .data, .data, .handle, .sentinel, .sentinel, .pinned, .pinned], laidTests := true, laidLooks := .later }
def ChapChecksCardSaid : Prop := Claim7.holds Tryz.pinned (.plain (OpenSpec.ofChange chapChecksSpec)) chapChecksCard

/-- THE TIED CARD OF 'quaymasterlaw.FeedPlays'. -/
def feedPlaysCard : Claim7 := { stood := { row := feedPlaysRow, standIns := [], harness := (true, "4e71f85172dcce211afed119d6e1dd443b07c36506b52a3aa33a4348e10ed385"), looks := true }, kinds := [], alts := [], laidByText := true, laidKinds := [.data, .data, .data, .data, .handle, .sentinel, .sentinel, .listed, .data, .pinned], laidTests := true, laidLooks := .later }
def FeedPlaysCardSaid : Prop := Claim7.holds Tryz.pinned (.plain (OpenSpec.ofChange feedPlaysSpec)) feedPlaysCard

/-- THE TIED CARD OF 'quaymasterlaw.KeysResults'. -/
def keysResultsCard : Claim7 := { stood := { row := keysResultsRow, standIns := [], harness := (true, "4e71f85172dcce211afed119d6e1dd443b07c36506b52a3aa33a4348e10ed385"), looks := true }, kinds := [], alts := [], laidByText := true, laidKinds := [.data, .data, .data, .data, .handle, .sentinel, .sentinel, .listed, .data, .pinned, .pinned], laidTests := true, laidLooks := .later }
def KeysResultsCardSaid : Prop := Claim7.holds Tryz.pinned (.plain (OpenSpec.ofChange keysResultsSpec)) keysResultsCard

/-- THE TIED CARD OF 'quaymasterlaw.TargetRights'. -/
def targetRightsCard : Claim7 := { stood := { row := targetRightsRow, standIns := [], harness := (true, "4e71f85172dcce211afed119d6e1dd443b07c36506b52a3aa33a4348e10ed385"), looks := true }, kinds := [], alts := [], laidByText := true, laidKinds := [.data, .data, .data, .data, .handle, .sentinel, .sentinel, .listed, .data, .pinned, .pinned], laidTests := true, laidLooks := .later }
def TargetRightsCardSaid : Prop := Claim7.holds Tryz.pinned (.plain (OpenSpec.ofChange targetRightsSpec)) targetRightsCard

/-- THE SECOND FORM's CARD OF 'quaymasterlaw.BinaryTurns'. -/
def binaryTurnsUptoCard : Claim7 := { stood := { row := binaryTurnsUptoRow, standIns := [], harness := (true, "4e71f85172dcce211afed119d6e1dd443b07c36506b52a3aa33a4348e10ed385"), looks := true }, kinds := [], alts := [], laidByText := true, laidKinds := [.data, .data, .data, .data, .handle, .sentinel, .sentinel, .pinned, .pinned], laidTests := true, laidLooks := .later }
def BinaryTurnsUptoCardSaid : Prop := Claim7.holds Tryz.pinned (.plain (OpenSpec.upto binaryTurnsSpec)) binaryTurnsUptoCard

/-- THE SECOND FORM's CARD OF 'quaymasterlaw.ChapChecks'. -/
def chapChecksUptoCard : Claim7 := { stood := { row := chapChecksUptoRow, standIns := [], harness := (true, "4e71f85172dcce211afed119d6e1dd443b07c36506b52a3aa33a4348e10ed385"), looks := true }, kinds := [], alts := [], laidByText := true, laidKinds := [.data, .data, .data, .data, .handle, .sentinel, .sentinel, .pinned, .pinned], laidTests := true, laidLooks := .later }
def ChapChecksUptoCardSaid : Prop := Claim7.holds Tryz.pinned (.plain (OpenSpec.upto chapChecksSpec)) chapChecksUptoCard

/-- THE SECOND FORM's CARD OF 'quaymasterlaw.FeedPlays'. -/
def feedPlaysUptoCard : Claim7 := { stood := { row := feedPlaysUptoRow, standIns := [], harness := (true, "4e71f85172dcce211afed119d6e1dd443b07c36506b52a3aa33a4348e10ed385"), looks := true }, kinds := [], alts := [], laidByText := true, laidKinds := [.data, .data, .data, .data, .handle, .sentinel, .sentinel, .listed, .data, .pinned], laidTests := true, laidLooks := .later }
def FeedPlaysUptoCardSaid : Prop := Claim7.holds Tryz.pinned (.plain (OpenSpec.upto feedPlaysSpec)) feedPlaysUptoCard

/-- THE SECOND FORM's CARD OF 'quaymasterlaw.KeysResults'. -/
def keysResultsUptoCard : Claim7 := { stood := { row := keysResultsUptoRow, standIns := [], harness := (true, "4e71f85172dcce211afed119d6e1dd443b07c36506b52a3aa33a4348e10ed385"), looks := true }, kinds := [], alts := [], laidByText := true, laidKinds := [.data, .data, .data, .data, .handle, .sentinel, .sentinel, .listed, .data, .pinned, .pinned], laidTests := true, laidLooks := .later }
def KeysResultsUptoCardSaid : Prop := Claim7.holds Tryz.pinned (.plain (OpenSpec.upto keysResultsSpec)) keysResultsUptoCard

/-- THE SECOND FORM's CARD OF 'quaymasterlaw.TargetRights'. -/
def targetRightsUptoCard : Claim7 := { stood := { row := targetRightsUptoRow, standIns := [], harness := (true, "4e71f85172dcce211afed119d6e1dd443b07c36506b52a3aa33a4348e10ed385"), looks := true }, kinds := [], alts := [], laidByText := true, laidKinds := [.data, .data, .data, .data, .handle, .sentinel, .sentinel, .listed, .data, .pinned, .pinned], laidTests := true, laidLooks := .later }
def TargetRightsUptoCardSaid : Prop := Claim7.holds Tryz.pinned (.plain (OpenSpec.upto targetRightsSpec)) targetRightsUptoCard
end Rows
end Go.Proofs.YtdpgchofnglceaaGreatDoor
