/-
  DERIVED. GIVEN WITH THE SEED: THE CARDS: each row of YtfadikchijkcfaaGreatDoorRows.lean that lists a variable, with what it lists TIED to the program's text (the seventh form; the later family's looks); each row that meets fmt, with fmt's text TOLD by the authors' own Lean function (tested against real Go, not proved from fmt's source: count such statements apart). THE CARD IS WHAT COUNTS. Prove the row's statement (the work); the ties are given (YtfadikchijkcfaaGreatDoorTie.lean); close each card by the builder's one call (the guide's Derived/Test/ToyasCard.lean, 'card_holds'). Laid BY PROGRAM, IN A SANDBOX (cutbox-door.mjs). By AI agents, Wed Nov 11 2026. No macro, syntax, notation, axiom, sorry.
-/
import Derived.Test.YtfadikchijkcfaaGreatDoorRows
import GoSem.ClaimSeven
namespace Go.Proofs.YtfadikchijkcfaaGreatDoor
namespace Rows

/-- THE TIED CARD OF 'quaymasterlaw.FullPlays'. -/
def fullPlaysCard : Claim7 := { stood := { row := fullPlaysRow, standIns := [], harness := (true, "ab7885e6c4bbe98554b0887d1314577a6b988ba4e141630dd953357ae833b81a"), looks := true }, kinds := [], alts := [], laidByText := true, laidKinds := [.data, .data, .data, .data, .handle, .sentinel, .sentinel, .listed, .data, .pinned, .pinned], laidTests := true, laidLooks := .later }
def FullPlaysCardSaid : Prop := Claim7.holds Tryz.pinned (.plain (OpenSpec.ofChange fullPlaysSpec)) fullPlaysCard

/-- THE TIED CARD OF 'quaymasterlaw.LoginPlays'. -/
def loginPlaysCard : Claim7 := { stood := { row := loginPlaysRow, standIns := [], harness := (true, "ab7885e6c4bbe98554b0887d1314577a6b988ba4e141630dd953357ae833b81a"), looks := true }, kinds := [], alts := [], laidByText := true, laidKinds := [.data, .data, .data, .data, .handle, .sentinel, .sentinel, .listed, .data, .pinned, .pinned], laidTests := true, laidLooks := .later }
def LoginPlaysCardSaid : Prop := Claim7.holds Tryz.pinned (.plain (OpenSpec.ofChange loginPlaysSpec)) loginPlaysCard

/-- THE SECOND FORM's CARD OF 'quaymasterlaw.FullPlays'. -/
def fullPlaysUptoCard : Claim7 := { stood := { row := fullPlaysUptoRow, standIns := [], harness := (true, "ab7885e6c4bbe98554b0887d1314577a6b988ba4e141630dd953357ae833b81a"), looks := true }, kinds := [], alts := [], laidByText := true, laidKinds := [.data, .data, .data, .data, .handle, .sentinel, .sentinel, .listed, .data, .pinned, .pinned], laidTests := true, laidLooks := .later }
def FullPlaysUptoCardSaid : Prop := Claim7.holds Tryz.pinned (.plain (OpenSpec.upto fullPlaysSpec)) fullPlaysUptoCard

/-- THE SECOND FORM's CARD OF 'quaymasterlaw.LoginPlays'. -/
def loginPlaysUptoCard : Claim7 := { stood := { row := loginPlaysUptoRow, standIns := [], harness := (true, "ab7885e6c4bbe98554b0887d1314577a6b988ba4e141630dd953357ae833b81a"), looks := true }, kinds := [], alts := [], laidByText := true, laidKinds := [.data, .data, .data, .data, .handle, .sentinel, .sentinel, .listed, .data, .pinned, .pinned], laidTests := true, laidLooks := .later }
def LoginPlaysUptoCardSaid : Prop := Claim7.holds Tryz.pinned (.plain (OpenSpec.upto loginPlaysSpec)) loginPlaysUptoCard
end Rows
end Go.Proofs.YtfadikchijkcfaaGreatDoor
